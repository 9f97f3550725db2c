/- Parts of the proof, joined: Contract: classes. Conditions: a well-formed graph, lengths below 2^20; Contracts: Equal, Word, Classes. Conditions: lengths below 2^20; Contracts: types in new memory with other references: what is called for parts and methods; slices.Clone. Conditions: lengths below 2^20; Contracts: slices.Clone of words and of rules; the append of a whole slice. Conditions: lengths below 2^20; Contracts: a method in new memory with other references. Conditions: lengths below 2^20; Contract: a type in new memory with other references. Conditions: lengths below 2^20. -/
import Derived.Deep.RegionHeld3
import Derived.RangeFuncBox
import Derived.Lib.SliceRun
import Derived.Deep.DeepCutAuto
import Derived.Test.YtldnjnnhfeobdaaGreatDoorG03
set_option linter.all false
set_option linter.unusedSimpArgs false
set_option linter.unusedVariables false
namespace Go.Proofs.YtldnjnnhfeobdaaGreatDoor
open Go.RowKit Go.Shelf
/-- none before j stands for itself and has p -/
def NoneB (c : List Nat) (p : Nat → Bool) (j : Nat) : Prop := ∀ k, k < j → ¬ (c.getD k 0 = k ∧ p k = true)
theorem NoneB.next {c : List Nat} {p : Nat → Bool} {j : Nat} (h : NoneB c p j) (hj : ¬ (c.getD j 0 = j ∧ p j = true)) : NoneB c p (j + 1) := fun k hk => by
 by_cases e : k = j
 ·subst e; exact hj
 ·exact h k (by omega)
/-- a new row of zeros -/
def zeros (n : Nat) : Obj := .cells ((List.replicate n 0).map fun (n : Nat) => Value.int .i64 (n : Int)).toArray 3
theorem make_zeros (w : World) (n : Nat) (hn : n ≤ 1048576) : (Instr.makeSlice 24 (.int .i64 (n : Int)) (.int .i64 (n : Int))).run Tryz.prog w = .ok (.slice (some ⟨w.heap.size, 0, none⟩) n n) (w.alloc (zeros n)) := by
 obtain ⟨i0, hi, hz0, hz1, hz2⟩ := info_parts infoI
 have h := run_makeSlice (P := Tryz.prog) (w := w) 24 3 i0 (.int .i64 0) Tryz.underlying24 hi hz0 .i64 .i64 n n (by omega) (by omega) (by rw [hz1, Int.toNat_natCast]; omega) (by rw [hz2]; omega) (by omega)
 rw [h, Int.toNat_natCast, hz1]
 have e : madeCells (Value.int .i64 0).cells (n * 1) = ((List.replicate n 0).map fun (n : Nat) => Value.int .i64 (n : Int)).toArray := by
  apply Array.ext
  ·simp [madeCells]
  ·intro i h1 h2
   simp [madeCells, Value.cells, Nat.mod_one]
 rw [e]
 rfl
theorem eqF_int : ∀ xs ys : List Int, eqF (fun x y => x == y) xs ys = decide (xs = ys)
 | [], [] => rfl
 | [], y :: ys => by simp [eqF]
 | x :: xs, [] => by simp [eqF]
 | x :: xs, y :: ys => by
  rw [eqF, eqF_int xs ys, Bool.eq_iff_iff]; simp
theorem look_map (g : Graph) (cs : List Nat) (i : Nat) : (refsL (getT g i)).map (lookN cs) = ((refsN g i).map (cs.getD · 0)).map fun (n : Nat) => (n : Int) := by
 unfold refsN
 rw [List.map_map, List.map_map]
 rfl
theorem look_eq (g : Graph) (cs : List Nat) (i j : Nat) : decide ((refsL (getT g i)).map (lookN cs) = (refsL (getT g j)).map (lookN cs)) = decide ((refsN g i).map (cs.getD · 0) = (refsN g j).map (cs.getD · 0)) := by
 rw [look_map, look_map, Bool.eq_iff_iff, decide_eq_true_eq, decide_eq_true_eq]
 refine ⟨fun h => ?_, fun h => by rw [h]⟩
 have := congrArg (List.map Int.toNat) h
 rw [List.map_map, List.map_map] at this
 simpa [Function.comp_def] using this
/-- has one of the first k turned? -/
def chgB (nx cs : List Nat) (k : Nat) : Bool := (List.range k).any fun i => nx.getD i 0 != cs.getD i 0
theorem chgB_succ (nx cs : List Nat) (k : Nat) : chgB nx cs (k + 1) = (chgB nx cs k || nx.getD k 0 != cs.getD k 0) := by
 simp [chgB, List.range_succ]
theorem chgB_same {nx cs : List Nat} {n : Nat} (h1 : nx.length = n) (h2 : cs.length = n) (h : chgB nx cs n = false) : nx = cs := by
 refine List.ext_getElem (by omega) fun i h3 h4 => ?_
 simp only [chgB, List.any_eq_false, List.mem_range] at h
 have := h i (by omega)
 simpa [List.getD_eq_getElem?_getD, List.getElem?_eq_getElem h3, List.getElem?_eq_getElem h4] using this
theorem chgB_diff {nx cs : List Nat} {n : Nat} (h : chgB nx cs n = true) : nx ≠ cs := by
 rintro rfl
 simp [chgB] at h
/-- what holds where a round of the refinement begins -/
def AgainB (g : Graph) (m : Nat) (b : Bool) (cs : List Nat) : Prop :=
 Rep g.length cs ∧ match b with
  | true => rankL g.length cs < m ∧ iterL (refsN g) g.length (m - 1) cs = classesG g
  | false => cs = classesG g
theorem AgainB.next {g : Graph} {m : Nat} {cs : List Nat} (h : AgainB g m true cs) : AgainB g (m - 1) (chgB (stepL (refsN g) g.length cs) cs g.length) (stepL (refsN g) g.length cs) := by
 obtain ⟨hr, h1, h2⟩ := h
 have hl : (stepL (refsN g) g.length cs).length = g.length := buildL_length _ _
 refine ⟨buildL_rep (stepQ_eqOn _ _ _), ?_⟩
 cases hc : chgB (stepL (refsN g) g.length cs) cs g.length with
 | true =>
  have hne := chgB_diff hc
  have h3 := step_rank hr hne
  refine ⟨by omega, ?_⟩
  rw [show m - 1 = (m - 1 - 1) + 1 by omega, iterL_go hne] at h2
  exact h2
 | false =>
  have e := chgB_same hl hr.len hc
  show _ = _
  rw [e, ← h2, iterL_stop e]
theorem pickL_eq {c : List Nat} {p : Nat → Bool} {i q : Nat} (hq : q ≤ i) (hn : NoneB c p q) (h : q = i ∨ c.getD q 0 = q ∧ p q = true) : pickL c p i = q := by
 by_cases e : q = i
 ·subst e; exact pickL_none hn
 ·rcases h with h | h
  ·exact absurd h e
  ·exact pickL_find (by omega) h.1 h.2 hn
theorem buildL_snoc (q : Nat → Nat → Bool) (k : Nat) : buildL q (k + 1) = buildL q k ++ [pickL (buildL q k) (q k) k] := rfl
set_option maxRecDepth 100000 in
set_option maxHeartbeats 16000000 in
theorem classes_any (w : World) (gv : Value) (g : Graph) (hg : Sl tyE w gv g) (hT : Tidy g) (hW : WF g) :
  Calls Tryz.prog 60 #[.agg #[gv]] w (RetP w (ResSl intE w ((classesG g).map fun (n : Nat) => (n : Int)))) := by
 have hn := hT.len
 have hag := fun (w' : World) (hx : Ext w w') (i j : Nat) (hi : i < g.length) (hj : j < g.length) => agree_any w' gv g i j (hg.mono hx) hT hi hj
 have hls := fun (w' : World) (hx : Ext w w') (i : Nat) (hi : i < g.length) => list_any w' gv g i g.length (hg.mono hx) hi hn (hW.fine (getT_mem hi))
 have hrl := fun (i : Nat) (hi : i < g.length) => (hW.fine (getT_mem hi)).refs_le
 have hrr := fun (i : Nat) (hi : i < g.length) => (hW.fine (getT_mem hi)).refs
 obtain ⟨A, cap, rfl⟩ := hg.len
 have hmk := fun w' => make_zeros w' g.length hn
 have Hag := Lib.hid hag
 have Hls := Lib.hid hls
 have Hrl := Lib.hid hrl
 have Hrr := Lib.hid hrr
 have HW := Lib.hid hW
 have hst : CSt w w.heap.size (w.heap.size + 2) (w.heap.size + 1) A cap g.length (buildL (agN g) 0 ++ List.replicate (g.length - 0) 0) (((w.alloc (.cells #[.slice A g.length cap] 77)).alloc (zeros g.length)).alloc (.cells #[.slice (some ⟨w.heap.size + 1, 0, none⟩) g.length g.length] 24)) := by
  have e1 := heap_alloc_self w (.cells #[.slice A g.length cap] 77)
  have e2 := heap_alloc_self (w.alloc (.cells #[.slice A g.length cap] 77)) (zeros g.length)
  have e3 := heap_alloc_self ((w.alloc (.cells #[.slice A g.length cap] 77)).alloc (zeros g.length)) (.cells #[.slice (some ⟨w.heap.size + 1, 0, none⟩) g.length g.length] 24)
  simp only [World.size_alloc] at e2 e3
  refine ⟨(((Ext.refl w).alloc _).alloc _).alloc _, ?_, ?_, ?_, by simp [buildL], by omega, by omega, by omega, by omega, by omega⟩
  ·exact Boxed.ext (Boxed.ext e1 ((Ext.refl _).alloc _)) ((Ext.refl _).alloc _)
  ·exact e3
  ·exact IntRow.ext e2 ((Ext.refl _).alloc _)
 have Hst := Lib.hid hst
 clear hag hls hg hT hW hrl hrr hst
 go_enter Tryz.func60, Tryz.ntmps60
 go_wp2_with fail
 generalize hw0 : ((w.alloc (.cells #[.slice A g.length cap] 77)).alloc (zeros g.length)).alloc (.cells #[.slice (some ⟨w.heap.size + 1, 0, none⟩) g.length g.length] 24) = w0 at Hst ⊢
 clear hw0
 go_loopw [17] (fun i wr => ∃ k : Nat, k ≤ g.length ∧ i = .int .i64 k ∧ Hid (CSt w w.heap.size (w.heap.size + 2) (w.heap.size + 1) A cap g.length (buildL (agN g) k ++ List.replicate (g.length - k) 0) wr)) (fun i _ => g.length - (intOf i).toNat)
 case atStart => exact ⟨0, by omega, by simp, Hst⟩
 case round =>
  clear Hst
  obtain ⟨k, hk, rfl, Hst⟩ := hrel
  by_cases hlt : k < g.length
  ·go_wp2_with fail
   obtain ⟨wo, rfl⟩ : ∃ wo : World, wo = wr := ⟨_, rfl⟩
   go_loopw [22] (fun j wr => ∃ q : Nat, q ≤ k ∧ j = .int .i64 q ∧ Hid (NoneB (buildL (agN g) k) (agN g k) q) ∧ Hid (CSt w w.heap.size (w.heap.size + 2) (w.heap.size + 1) A cap g.length (buildL (agN g) k ++ List.replicate (g.length - k) 0) wr)) (fun j _ => k + 1 - (intOf j).toNat)
   case atStart => exact ⟨0, by omega, by simp, fun _ h => by omega, Hst⟩
   case round =>
    clear Hst
    obtain ⟨q, hq, rfl, Hno, Hst⟩ := hrel
    have hln := Hst.out.len
    have cx := Hst.out.cbox.cell
    have cg := Hst.out.gbox.cell
    have cq := Hst.out.row.cell q (by omega)
    have l0 := cell_lt cx
    have l1 := cell_lt cg
    have l2 := cell_lt cq
    have hq1 : (q : Int) < (k : Int) + 1 := by omega
    have hq2 : (0 : Int) ≤ (q : Int) := by omega
    have hq3 : (q : Int) < (g.length : Int) := by omega
    have hk2 : (0 : Int) ≤ (k : Int) := by omega
    have hk3 : (k : Int) < (g.length : Int) := by omega
    have Hset := Lib.hid (set_next (buildL (agN g) k) k g.length (pickL (buildL (agN g) k) (agN g k) k) (buildL_length _ _) hlt)
    by_cases hqk : q < k
    ·rw [getD_pre _ _ _ (by rw [buildL_length]; exact hqk)] at cq
     have hqk' : ((q : Int) == (k : Int)) = false := by rw [beq_eq_false_iff_ne]; omega
     by_cases hc : (buildL (agN g) k).getD q 0 = q
     ·rw [hc] at cq
      have Hc := Lib.hid hc
      cases ha : agN g k q
      ·have Hno2 := Lib.hid (Hno.out.next (fun h => by simp [ha] at h))
       have Ha := Lib.hid ha
       clear hc ha hln
       go_wp2_with fail
       refine (Hag.out _ Hst.out.ext k q hlt (by omega)).mono ?_
       rintro e w1 ⟨rfl, hx1⟩
       rw [Ha.out]
       have Hst1 := Lib.hid (Hst.out.later hx1)
       clear hx1 cx cg cq
       go_wp2_with fail
       go_roundw
       case rel => exact ⟨q + 1, by omega, by go_num, Hno2, Hst1⟩
       case measure => simp [intOf]; omega
      ·have hp := pickL_eq hq Hno.out (.inr ⟨hc, ha⟩)
       have Ha := Lib.hid ha
       have Hp := Lib.hid hp
       clear hc ha hln hp
       go_wp2_with fail
       refine (Hag.out _ Hst.out.ext k q hlt (by omega)).mono ?_
       rintro e w1 ⟨rfl, hx1⟩
       rw [Ha.out]
       have Hst1 := Lib.hid (Hst.out.later hx1)
       clear hx1 cx cg cq l0 l1 l2
       have cx := Hst1.out.cbox.cell
       have ck := Hst1.out.row.cell k (by rw [Hst1.out.len]; exact hlt)
       have fk := Hst1.out.row.frozen k
       have l0 := cell_lt cx
       have l2 := cell_lt ck
       go_wp2_with fail
       go_roundw
       case rel => exact ⟨k + 1, by omega, by go_num, Lib.hid (by have h := Hst1.out.set k q; rw [buildL_snoc]; rw [← Hset.out, Hp.out]; exact h)⟩
       case measure => simp [intOf]; omega
     ·have hc' : ((((buildL (agN g) k).getD q 0 : Nat) : Int) == (q : Int)) = false := by rw [beq_eq_false_iff_ne]; omega
      have Hno2 := Lib.hid (Hno.out.next (fun h => hc h.1))
      generalize (buildL (agN g) k).getD q 0 = c at cq hc'
      clear hc hln
      go_wp2_with fail
      go_roundw
      case rel => exact ⟨q + 1, by omega, by go_num, Hno2, Hst⟩
      case measure => simp [intOf]; omega
    ·obtain rfl : q = k := by omega
     rw [getD_zero _ _ _ (by rw [buildL_length]; omega)] at cq
     have hp := pickL_eq hq Hno.out (.inl rfl)
     have Hp := Lib.hid hp
     have ck := cq
     have fk := Hst.out.row.frozen q
     clear hln hp hqk
     by_cases h0 : q = 0
     ·subst h0
      have ha : agN g 0 0 = true := byF_agree.refl _
      have Ha := Lib.hid ha
      clear ha
      go_wp2_with fail
      refine (Hag.out _ Hst.out.ext 0 0 hlt hlt).mono ?_
      rintro e w1 ⟨rfl, hx1⟩
      rw [Ha.out]
      have Hst1 := Lib.hid (Hst.out.later hx1)
      clear hx1 cx cg cq ck fk l0 l1 l2
      have cx := Hst1.out.cbox.cell
      have ck := Hst1.out.row.cell 0 (by rw [Hst1.out.len]; exact hlt)
      have fk := Hst1.out.row.frozen 0
      have l0 := cell_lt cx
      have l2 := cell_lt ck
      go_wp2_with fail
      go_roundw
      case rel => exact ⟨1, by omega, by go_num, Lib.hid (by have h := Hst1.out.set 0 0; rw [buildL_snoc]; rw [← Hset.out, Hp.out]; exact h)⟩
      case measure => simp [intOf]; omega
     ·have h0' : ((0 : Int) == (q : Int)) = false := by rw [beq_eq_false_iff_ne]; omega
      go_wp2_with fail
      go_roundw
      case rel => exact ⟨q + 1, by omega, by go_num, Lib.hid (by have h := Hst.out.set q q; rw [buildL_snoc]; rw [← Hset.out, Hp.out]; exact h)⟩
      case measure => simp [intOf]; omega
  ·obtain rfl : k = g.length := by omega
   have Hst1 := Lib.hid (by have h := Hst.out; rwa [Nat.sub_self, List.replicate_zero, List.append_nil] at h : CSt w w.heap.size (w.heap.size + 2) (w.heap.size + 1) A cap g.length (buildL (agN g) g.length) wr)
   clear Hst hlt
   go_wp2_with fail
   go_loopg [6] (g.length + 1) (fun m ag wr => ∃ (b : Bool) (Bc : Nat) (cs : List Nat), ag = .bool b ∧ Hid (CSt w w.heap.size (w.heap.size + 2) Bc A cap g.length cs wr) ∧ Hid (AgainB g m b cs))
   case atStart =>
    refine ⟨true, _, _, rfl, Hst1, ?_⟩
    exact ⟨buildL_rep (agN_eqOn g _), by have := rankL_le g.length (buildL (agN g) g.length); omega, rfl⟩
   case round =>
    clear Hst1
    obtain ⟨b, Bc, cs, rfl, Hst, Hgn⟩ := hrel
    cases b
    ·have cx := Hst.out.cbox.cell
     have hcs : cs = classesG g := Hgn.out.2
     have Hcs := Lib.hid hcs
     clear hcs
     go_wp2_with fail
     go_ret
     refine ⟨_, rfl, ?_, Hst.out.ext⟩
     have h := IntRow.sl Hst.out.row g.length (by rw [Hst.out.len]; exact Nat.le_refl _)
     rw [Hst.out.len] at h
     rw [← Hcs.out]
     obtain ⟨A1, c1, e1, h1⟩ := h
     refine ⟨A1, c1, e1, fun i x hi => ?_⟩
     obtain ⟨b1, o1, cs1, e2, ⟨_, hle⟩, e3, e4⟩ := h1 i x hi
     refine ⟨b1, o1, cs1, e2, ⟨?_, hle⟩, e3, e4⟩
     rw [e2] at e1
     injection e1 with e5 e6 e7
     injection e5 with e8
     injection e8 with e9
     subst e9
     exact Hst.out.nb.1
    ·have cx := Hst.out.cbox.cell
     have l0 := cell_lt cx
     obtain ⟨wo, rfl⟩ : ∃ wo : World, wo = wr := ⟨_, rfl⟩
     have Hnb := Lib.hid Hst.out.nb
     have Hs0 := Lib.hid (Hst.out.later ((Ext.refl wo).alloc (zeros g.length)))
     have Hz0 := Lib.hid (show IntRow (wo.alloc (zeros g.length)) wo.heap.size (buildL (stepQ (refsN g) cs) 0 ++ List.replicate (g.length - 0) 0) from heap_alloc_self wo (zeros g.length))
     have Hbn := Lib.hid (show w.heap.size ≤ wo.heap.size ∧ w.heap.size ≠ wo.heap.size ∧ w.heap.size + 2 ≠ wo.heap.size ∧ Bc ≠ wo.heap.size from ⟨Hst.out.ext.size, by have := Hst.out.gbox.lt; omega, by have := Hst.out.cbox.lt; omega, by have := Hst.out.row.lt; omega⟩)
     clear Hst
     go_wp2_with fail
     obtain ⟨Bn, hBn⟩ : ∃ Bn, Bn = wo.heap.size := ⟨_, rfl⟩
     rw [← hBn] at Hz0 Hbn ⊢
     clear hBn cx l0
     generalize wo.alloc (zeros g.length) = wz at Hs0 Hz0 ⊢
     go_loopw [6, 54] (fun ag i wr => ∃ k : Nat, k ≤ g.length ∧ i = .int .i64 k ∧ ag = .bool (chgB (stepL (refsN g) g.length cs) cs k) ∧ Hid (CSt w w.heap.size (w.heap.size + 2) Bc A cap g.length cs wr) ∧ Hid (IntRow wr Bn (buildL (stepQ (refsN g) cs) k ++ List.replicate (g.length - k) 0))) (fun _ i _ => g.length - (intOf i).toNat)
     case atStart => exact ⟨0, by omega, by simp, rfl, Hs0, Hz0⟩
     case round =>
      clear Hs0 Hz0
      obtain ⟨k, hk, rfl, rfl, Hst, Hnx⟩ := hrel
      by_cases hlt : k < g.length
      ·have cg := Hst.out.gbox.cell
       have l1 := cell_lt cg
       have hk2 : (0 : Int) ≤ (k : Int) := by omega
       have hk3 : (k : Int) < (g.length : Int) := by omega
       obtain ⟨wo2, rfl⟩ : ∃ wo : World, wo = wr := ⟨_, rfl⟩
       generalize hch : chgB (stepL (refsN g) g.length cs) cs k = chk
       have Hch := Lib.hid hch
       clear hch
       go_wp2_with fail
       refine (Hls.out _ Hst.out.ext k hlt).mono ?_
       rintro e w1 ⟨v1, rfl, hv1, hx1⟩
       have Hst1 := Lib.hid (Hst.out.later hx1)
       have Hnx1 := Lib.hid (Hnx.out.ext hx1)
       have Hv1 := Lib.hid hv1.any
       obtain ⟨A1, c1, e1⟩ := hv1.any.len
       subst e1
       clear hv1 hx1 cg l1 Hst Hnx
       have Hmp := Lib.hid (turned_int_int 109 #[.pointer (some ⟨w.heap.size + 2, 0, none⟩)] w1 _ (refsL (getT g k)) (lookN cs) Hv1.out (by have := Hrl.out k hlt; omega) (map109 w1 _ Bc g.length cs _ Hst1.out.cbox Hst1.out.row Hst1.out.len hn (Hrr.out k hlt)))
       go_wp2_with fail
       refine Hmp.out.mono ?_
       rintro e w2 ⟨v2, rfl, hv2, hx2⟩
       have Hst2 := Lib.hid (Hst1.out.later hx2)
       have Hnx2 := Lib.hid (Hnx1.out.ext hx2)
       have Hv2 := Lib.hid hv2.any
       obtain ⟨A2, c2, e2⟩ := hv2.any.len
       rw [List.length_map] at e2
       subst e2
       clear hv2 hx2 Hmp Hv1 Hst1 Hnx1
       go_wp2_with fail
       have Hlk := Lib.hid (Hrl.out k hlt)
       generalize (refsL (getT g k)).length = lk at *
       clear hk2 hk3
       go_loopw [64] (fun j wq => ∃ q : Nat, q ≤ k ∧ j = .int .i64 q ∧ Hid (NoneB (buildL (stepQ (refsN g) cs) k) (stepQ (refsN g) cs k) q) ∧ Hid (CSt w w.heap.size (w.heap.size + 2) Bc A cap g.length cs wq) ∧ Hid (IntRow wq Bn (buildL (stepQ (refsN g) cs) k ++ List.replicate (g.length - k) 0)) ∧ Hid (Sl intE wq (.slice A2 lk c2) ((refsL (getT g k)).map (lookN cs)))) (fun j _ => k + 1 - (intOf j).toNat)
       case atStart => exact ⟨0, by omega, by simp, fun _ h => by omega, Hst2, Hnx2, Hv2⟩
       case round =>
        clear Hst2 Hnx2 Hv2
        obtain ⟨q, hq, rfl, Hno, Hst, Hnx, Hv2⟩ := hrel
        obtain ⟨wq, rfl⟩ : ∃ wq : World, wq = wr := ⟨_, rfl⟩
        have hln := Hst.out.len
        have hnl : (buildL (stepQ (refsN g) cs) k ++ List.replicate (g.length - k) 0).length = g.length := by rw [List.length_append, buildL_length, List.length_replicate]; omega
        have cx := Hst.out.cbox.cell
        have cg := Hst.out.gbox.cell
        have kq := Hst.out.row.cell q (by omega)
        have kk := Hst.out.row.cell k (by omega)
        have nq := Hnx.out.cell q (by omega)
        have l0 := cell_lt cx
        have l1 := cell_lt cg
        have l2 := cell_lt nq
        have l3 := cell_lt kq
        have hq1 : (q : Int) < (k : Int) + 1 := by omega
        have hq2 : (0 : Int) ≤ (q : Int) := by omega
        have hq3 : (q : Int) < (g.length : Int) := by omega
        have hk2 : (0 : Int) ≤ (k : Int) := by omega
        have hk3 : (k : Int) < (g.length : Int) := by omega
        have Hset := Lib.hid (set_next (buildL (stepQ (refsN g) cs) k) k g.length (pickL (buildL (stepQ (refsN g) cs) k) (stepQ (refsN g) cs k) k) (buildL_length _ _) hlt)
        have Hgd := Lib.hid (buildL_getD (stepQ (refsN g) cs) g.length k hlt)
        have Hln := Lib.hid hln
        have Hnl := Lib.hid hnl
        clear hln hnl
        by_cases hqk : q < k
        ·rw [getD_pre _ _ _ (by rw [buildL_length]; exact hqk)] at nq
         have hqk' : ((q : Int) == (k : Int)) = false := by rw [beq_eq_false_iff_ne]; omega
         by_cases hc : (buildL (stepQ (refsN g) cs) k).getD q 0 = q
         ·rw [hc] at nq
          by_cases hcc : cs.getD k 0 = cs.getD q 0
          ·rw [← hcc] at kq
           have hsr : eqF (fun x y => x == y) ((refsL (getT g k)).map (lookN cs)) ((refsL (getT g q)).map (lookN cs)) = stepQ (refsN g) cs k q := by
            rw [eqF_int, look_eq, stepQ, hcc]; simp
           have hS : ∀ w', Ext wq w' → (w'.cell? ⟨w.heap.size, 0, none⟩ = some (.slice A g.length cap) ∧ w'.cell? ⟨w.heap.size + 2, 0, none⟩ = some (.slice (some ⟨Bc, 0, none⟩) g.length g.length) ∧ w'.cell? ⟨Bc, q, none⟩ = some (.int .i64 ((cs.getD k 0 : Nat) : Int)) ∧ w'.cell? ⟨Bc, k, none⟩ = some (.int .i64 ((cs.getD k 0 : Nat) : Int)) ∧ w'.cell? ⟨Bn, q, none⟩ = some (.int .i64 (q : Int))) := fun w' h => ⟨h.cell cg, h.cell cx, h.cell kq, h.cell kk, h.cell nq⟩
           have hmq := fun (w1 : World) (v : Value) (hx : Ext wq w1) (hv : Sl intE w1 v (refsL (getT g q))) => turned_int_int 110 #[.pointer (some ⟨w.heap.size + 2, 0, none⟩)] w1 v (refsL (getT g q)) (lookN cs) hv (by have := Hrl.out q (by omega); omega) (map110 w1 _ Bc g.length cs _ (Hst.out.later hx).cbox (Hst.out.later hx).row (Hst.out.later hx).len hn (Hrr.out q (by omega)))
           have heq := fun (w1 : World) (v : Value) (hx : Ext wq w1) (hv : Sl intE w1 v ((refsL (getT g q)).map (lookN cs))) => equal_int w1 _ v _ _ (Hv2.out.mono hx) hv (by rw [List.length_map]; have := Hrl.out k hlt; omega) (by rw [List.length_map]; have := Hrl.out q (by omega); omega)
           rw [hsr] at heq
           have hp := fun (h : stepQ (refsN g) cs k q = true) => pickL_eq hq Hno.out (.inr ⟨hc, h⟩)
           have hno2 := fun (h : stepQ (refsN g) cs k q = false) => Hno.out.next (fun h2 => by rw [h] at h2; simp at h2)
           generalize stepQ (refsN g) cs k q = r at heq hp hno2
           have HS := Lib.hid hS
           have Hmq := Lib.hid hmq
           have Heq := Lib.hid heq
           have Hp0 := Lib.hid hp
           have Hno0 := Lib.hid hno2
           have Hlq := Lib.hid (Hls.out wq.drew (Hst.out.ext.trans (Ext.refl wq).drew) q (by omega))
           generalize (refsL (getT g q)).map (lookN cs) = Mq at Hmq Heq
           have Hlq' := Hlq
           generalize hck : cs.getD k 0 = ckv at kq kk HS
           have Hck := Lib.hid hck
           clear hS hmq heq hp hno2 hc hcc hsr hck
           go_wp2_with fail
           go_region_held3 (fun w' => w'.cell? ⟨w.heap.size, 0, none⟩ = some (.slice A g.length cap) ∧ w'.cell? ⟨w.heap.size + 2, 0, none⟩ = some (.slice (some ⟨Bc, 0, none⟩) g.length g.length) ∧ w'.cell? ⟨Bc, q, none⟩ = some (.int .i64 (ckv : Int)) ∧ w'.cell? ⟨Bc, k, none⟩ = some (.int .i64 (ckv : Int)) ∧ w'.cell? ⟨Bn, q, none⟩ = some (.int .i64 (q : Int))) (first | exact HS.out _ (Ext.refl _).drew | exact HS.out _ hxa | exact HS.out _ hxb | exact HS.out _ hxc) (first | (go_at_call 56; refine Hlq.out.mono ?_; rintro e wa ⟨va, rfl, hva, hxa0⟩; have hxa := ((Ext.refl wq).drew).trans hxa0; obtain ⟨Aa, ca, ea⟩ := hva.any.len; subst ea) | (go_at_call 73; refine (Hmq.out _ _ hxa hva.any).mono ?_; rintro e wb ⟨vb, rfl, hvb, hxb0⟩; have hxb := hxa.trans hxb0; obtain ⟨Ab, cb, eb⟩ := hvb.any.len; subst eb) | (go_at_call 80; refine (Heq.out _ _ hxb hvb.any).mono ?_; rintro e wc ⟨rfl, hxc0⟩; have hxc := hxb.trans hxc0))
           all_goals
            have Hst3 := Lib.hid (Hst.out.later hxc)
            have Hn3 := Lib.hid (Hnx.out.ext hxc)
            have Hv3 := Lib.hid (Hv2.out.mono hxc)
            clear cx cg kq kk nq l0 l1 l2 l3 hxa0 hxb0 hxc0 hxa hxb hxc hva hvb HS Hmq Heq Hlq Hlq' Hst Hnx Hv2
            cases r
            ·have Hno2 := Lib.hid (Hno0.out rfl)
             go_wp2_with fail
             go_roundw
             case rel => exact ⟨q + 1, by omega, by go_num, Hno2, Hst3, Hn3, Hv3⟩
             case measure => simp [intOf]; omega
            ·have Hp := Lib.hid (Hp0.out rfl)
             have nk := Hn3.out.cell k (by rw [Hnl.out]; exact hlt)
             have fk := Hn3.out.frozen k
             have l2 := cell_lt nk
             have nk0 := Lib.hid nk
             go_wp2_with fail
             clear nk fk l2
             have Hst4 := Lib.hid (Hst3.out.put Bn k (.int .i64 (q : Int)) Hbn.out.1 Hbn.out.2.1 Hbn.out.2.2.1 Hbn.out.2.2.2)
             have Hn4 := Lib.hid (show IntRow (wc.setCell ⟨Bn, k, none⟩ (.int .i64 (q : Int))) Bn (buildL (stepQ (refsN g) cs) (k + 1) ++ List.replicate (g.length - (k + 1)) 0) by have h := Hn3.out.set k q; rw [buildL_snoc, ← Hset.out, Hp.out]; exact h)
             have c4x := Hst4.out.cbox.cell
             have c4k := Hst4.out.row.cell k (by rw [Hst4.out.len]; exact hlt)
             have n4k : (wc.setCell ⟨Bn, k, none⟩ (.int .i64 (q : Int))).cell? ⟨Bn, k, none⟩ = some (.int .i64 (q : Int)) := World.cell?_setCell_same' _ _ _ (by rw [nk0.out]; rfl)
             have hb : ((q : Int) != ((cs.getD k 0 : Nat) : Int)) = (pickL (buildL (stepQ (refsN g) cs) k) (stepQ (refsN g) cs k) k != cs.getD k 0) := by
              rw [Hp.out, Bool.eq_iff_iff, bne_iff_ne, bne_iff_ne]; omega
             have hsc := chgB_succ (stepL (refsN g) g.length cs) cs k
             rw [show (stepL (refsN g) g.length cs).getD k 0 = pickL (buildL (stepQ (refsN g) cs) k) (stepQ (refsN g) cs k) k from Hgd.out, Hch.out, ← hb] at hsc
             have Hsc := Lib.hid hsc
             generalize hbb : ((q : Int) != ((cs.getD k 0 : Nat) : Int)) = bb at hb Hsc
             generalize cs.getD k 0 = ckv at c4k hbb
             clear hb hsc
             generalize wc.setCell ⟨Bn, k, none⟩ (.int .i64 (q : Int)) = w5 at Hst4 Hn4 c4x c4k n4k ⊢
             cases chk
             ·go_quiet (fail)
              go_wp2_with fail
              go_roundw
              case rel => exact ⟨k + 1, by omega, by go_num, by rw [Hsc.out]; simp, Hst4.out.later ((Ext.refl _).drewN _), Hn4.out.ext ((Ext.refl _).drewN _)⟩
              case measure => simp [intOf]; omega
             ·go_quiet (fail)
              go_wp2_with fail
              go_roundw
              case rel => exact ⟨k + 1, by omega, by go_num, by rw [Hsc.out]; simp, Hst4.out.later ((Ext.refl _).drewN _), Hn4.out.ext ((Ext.refl _).drewN _)⟩
              case measure => simp [intOf]; omega
          ·have hcc' : (((cs.getD q 0 : Nat) : Int) == ((cs.getD k 0 : Nat) : Int)) = false := by rw [beq_eq_false_iff_ne]; omega
           have Hno2 := Lib.hid (Hno.out.next (fun h => hcc (stepQ_iff.1 h.2).1))
           generalize cs.getD q 0 = cqv at kq hcc'
           generalize cs.getD k 0 = ckv at kk hcc'
           clear hc hcc
           go_wp2_with fail
           go_quiet (fail)
           go_wp2_with fail
           go_roundw
           case rel => exact ⟨q + 1, by omega, by go_num, Hno2, Hst.out.later ((Ext.refl _).drewN _), Hnx.out.ext ((Ext.refl _).drewN _), Hv2.out.mono ((Ext.refl _).drewN _)⟩
           case measure => simp [intOf]; omega
         ·have hc' : ((((buildL (stepQ (refsN g) cs) k).getD q 0 : Nat) : Int) == (q : Int)) = false := by rw [beq_eq_false_iff_ne]; omega
          have Hno2 := Lib.hid (Hno.out.next (fun h => hc h.1))
          generalize (buildL (stepQ (refsN g) cs) k).getD q 0 = c at nq hc'
          clear hc
          go_wp2_with fail
          go_quiet (fail)
          go_wp2_with fail
          go_roundw
          case rel => exact ⟨q + 1, by omega, by go_num, Hno2, Hst.out.later ((Ext.refl _).drewN _), Hnx.out.ext ((Ext.refl _).drewN _), Hv2.out.mono ((Ext.refl _).drewN _)⟩
          case measure => simp [intOf]; omega
        ·obtain rfl : q = k := by omega
         have hp := pickL_eq hq Hno.out (.inl rfl)
         have Hp := Lib.hid hp
         clear hp hqk
         rw [getD_zero _ _ _ (by rw [buildL_length]; omega)] at nq
         go_wp2_with fail
         go_quiet (fail)
         generalize hw3 : wq.drewN _ = w3
         have hx3 : Ext wq w3 := hw3 ▸ (Ext.refl wq).drewN _
         have Hst3 := Lib.hid (Hst.out.later hx3)
         have Hn3 := Lib.hid (Hnx.out.ext hx3)
         clear hw3 cx cg kq kk nq l0 l1 l2 l3 hx3
         have nk := Hn3.out.cell q (by rw [Hnl.out]; exact hlt)
         have fk := Hn3.out.frozen q
         have l2 := cell_lt nk
         have nk0 := Lib.hid nk
         go_wp2_with fail
         clear nk fk l2
         have Hst4 := Lib.hid (Hst3.out.put Bn q (.int .i64 (q : Int)) Hbn.out.1 Hbn.out.2.1 Hbn.out.2.2.1 Hbn.out.2.2.2)
         have Hn4 := Lib.hid (show IntRow (w3.setCell ⟨Bn, q, none⟩ (.int .i64 (q : Int))) Bn (buildL (stepQ (refsN g) cs) (q + 1) ++ List.replicate (g.length - (q + 1)) 0) by have h := Hn3.out.set q q; rw [buildL_snoc, ← Hset.out, Hp.out]; exact h)
         have c4x := Hst4.out.cbox.cell
         have c4k := Hst4.out.row.cell q (by rw [Hst4.out.len]; exact hlt)
         have n4k : (w3.setCell ⟨Bn, q, none⟩ (.int .i64 (q : Int))).cell? ⟨Bn, q, none⟩ = some (.int .i64 (q : Int)) := World.cell?_setCell_same' _ _ _ (by rw [nk0.out]; rfl)
         have hb : ((q : Int) != ((cs.getD q 0 : Nat) : Int)) = (pickL (buildL (stepQ (refsN g) cs) q) (stepQ (refsN g) cs q) q != cs.getD q 0) := by
          rw [Hp.out, Bool.eq_iff_iff, bne_iff_ne, bne_iff_ne]; omega
         have hsc := chgB_succ (stepL (refsN g) g.length cs) cs q
         rw [show (stepL (refsN g) g.length cs).getD q 0 = pickL (buildL (stepQ (refsN g) cs) q) (stepQ (refsN g) cs q) q from Hgd.out, Hch.out, ← hb] at hsc
         have Hsc := Lib.hid hsc
         generalize hbb : ((q : Int) != ((cs.getD q 0 : Nat) : Int)) = bb at hb Hsc
         generalize cs.getD q 0 = ckv at c4k hbb
         clear hb hsc
         generalize w3.setCell ⟨Bn, q, none⟩ (.int .i64 (q : Int)) = w5 at Hst4 Hn4 c4x c4k n4k ⊢
         cases chk
         ·go_quiet (fail)
          go_wp2_with fail
          go_roundw
          case rel => exact ⟨q + 1, by omega, by go_num, by rw [Hsc.out]; simp, Hst4.out.later ((Ext.refl _).drewN _), Hn4.out.ext ((Ext.refl _).drewN _)⟩
          case measure => simp [intOf]; omega
         ·go_quiet (fail)
          go_wp2_with fail
          go_roundw
          case rel => exact ⟨q + 1, by omega, by go_num, by rw [Hsc.out]; simp, Hst4.out.later ((Ext.refl _).drewN _), Hn4.out.ext ((Ext.refl _).drewN _)⟩
          case measure => simp [intOf]; omega
      ·obtain rfl : k = g.length := by omega
       have hz : (buildL (stepQ (refsN g) cs) g.length ++ List.replicate (g.length - g.length) 0) = stepL (refsN g) g.length cs := by
        rw [Nat.sub_self, List.replicate_zero, List.append_nil]; rfl
       have Hn2 := Lib.hid (by have h := Hnx.out; rwa [hz] at h : IntRow wr Bn (stepL (refsN g) g.length cs))
       have Hcb := Lib.hid (Boxed.set (.slice (some ⟨Bn, 0, none⟩) g.length g.length) Hst.out.cbox)
       have Hst5 := Lib.hid (show CSt w w.heap.size (w.heap.size + 2) Bn A cap g.length (stepL (refsN g) g.length cs) (wr.setCell ⟨w.heap.size + 2, 0, none⟩ (.slice (some ⟨Bn, 0, none⟩) g.length g.length)) from
        ⟨Hst.out.ext.setCell (by simp) _, Boxed.other' Hst.out.gbox _ (by omega), Hcb.out, Hn2.out.other _ (fun e => Hbn.out.2.2.1 e.symm), buildL_length _ _, Hbn.out.1, by omega, Hbn.out.2.1, Hbn.out.2.2.1, by omega⟩)
       have cx := Hst.out.cbox.cell
       have fx := Hst.out.cbox.frozen
       have l0 := cell_lt cx
       have Hgn2 := Lib.hid Hgn.out.next
       have hgk : 0 < gk := by have := Hgn.out.2.1; omega
       clear hz Hnx Hst hlt
       go_wp2_with fail
       go_roundg (gk - 1)
       case rel => exact ⟨_, _, _, rfl, Hst5, Hgn2⟩
       case measure => omega
end Go.Proofs.YtldnjnnhfeobdaaGreatDoor
/- Contracts: Equal, Word, Classes. Conditions: lengths below 2^20. -/
namespace Go.Proofs.YtldnjnnhfeobdaaGreatDoor
open Go.RowKit Go.Shelf
theorem lit_ints (W : World) (l : List Int) (n : Nat) (hn : l.length = n) : Sl intE (W.alloc (.cells (l.map fun x => Value.int .i64 x).toArray 3)) (.slice (some ⟨W.heap.size, 0, none⟩) n n) l := by
 subst hn
 refine ⟨_, _, rfl, fun i x hi => ⟨_, _, _, rfl, ⟨trivial, Nat.le_refl _⟩, rfl, fun j u hj => ?_⟩⟩
 have hlt := (List.getElem?_eq_some_iff.1 hi).1
 cases j with
 | zero =>
  simp at hj
  subst hj
  simp only [intE, Nat.mul_one, Nat.add_zero, Nat.zero_add]
  rw [World.cell?_alloc_new]
  simp [hi]
 | succ j => simp at hj
theorem Sl.nat {w : World} {v : Value} {ns : List Nat} (h : Sl intE w v (ns.map fun (n : Nat) => (n : Int))) : ∃ A cap, v = .slice A ns.length cap ∧
  ∀ i, i < ns.length → ∃ b off, A = some ⟨b, off, none⟩ ∧ w.cell? ⟨b, off + i, none⟩ = some (.int .i64 (ns.getD i 0 : Nat)) := by
 obtain ⟨A, cap, rfl, hs⟩ := h.int
 refine ⟨A, cap, by rw [List.length_map], fun i hi => ?_⟩
 obtain ⟨b, off, e, hc⟩ := hs i (by rw [List.length_map]; exact hi)
 refine ⟨b, off, e, ?_⟩
 rw [hc]
 simp [List.getD_eq_getElem?_getD, List.getElem?_eq_getElem hi]
theorem errG_zero {g : Graph} {ats : List Int} (h : errG g ats = 0) : WF g ∧ ∀ a ∈ ats, 0 ≤ a ∧ a < g.length := by
 unfold errG at h
 split at h
 ·rename_i h1
  refine ⟨checkG_ok.1 h1, fun a ha => ?_⟩
  cases hc : ats.any (outB g.length) with
  | true => simp [hc] at h
  | false =>
   rw [List.any_eq_false] at hc
   have := hc a ha
   simp only [outB, Bool.not_eq_true', Bool.not_eq_false] at this
   exact hasB_iff.1 this
 ·omega
theorem errG_of {g : Graph} {ats : List Int} (h : WF g) (ha : ∀ a ∈ ats, 0 ≤ a ∧ a < g.length) : errG g ats = 0 := by
 unfold errG
 rw [if_pos (checkG_ok.2 h)]
 have : ats.any (outB g.length) = false := by
  rw [List.any_eq_false]
  intro a hm
  have := hasB_iff.2 (ha a hm)
  simp [outB, this]
 rw [this]; rfl
theorem classesG_length (g : Graph) (h : WF g) : (classesG g).length = g.length := (classesN_facts h.abs).1.len
/-- are two types the same? -/
def sameG (g : Graph) (a b : Nat) : Bool := decide ((classesG g).getD a 0 = (classesG g).getD b 0)
def equalG (g : Graph) (a b : Int) : Bool := if errG g [a, b] = 0 then sameG g a.toNat b.toNat else false
def classesR (g : Graph) : List Int := if errG g [] = 0 then (classesG g).map fun (n : Nat) => (n : Int) else []
set_option maxRecDepth 100000 in
set_option maxHeartbeats 4000000 in
theorem equal_any (w : World) (gv : Value) (g : Graph) (a b : Int) (hg : Sl tyE w gv g) (hT : Tidy g) (hG : Glob w) :
  Calls Tryz.prog 20 #[gv, .int .i64 a, .int .i64 b] w (Ret w (.tuple #[.bool (equalG g a b), .int .i64 (errG g [a, b])])) := by
 have hop := opened_any (w.alloc (.cells #[.int .i64 a, .int .i64 b] 3)) gv _ g [a, b] (hg.mono ((Ext.refl w).alloc _)) hT (hG.mono ((Ext.refl w).alloc _)) (lit_ints w [a, b] 2 rfl) (by simp)
 have hcl := fun (w' : World) (hx : Ext w w') (hW : WF g) => classes_any w' gv g (hg.mono hx) hT hW
 have hn := hT.len
 obtain ⟨A, cap, rfl⟩ := hg.len
 unfold equalG
 by_cases h0 : errG g [a, b] = 0
 ·rw [if_pos h0]
  rw [h0] at hop ⊢
  obtain ⟨hW, hab⟩ := errG_zero h0
  obtain ⟨a0, a1⟩ := hab a (by simp)
  obtain ⟨b0, b1⟩ := hab b (by simp)
  obtain ⟨i, rfl⟩ := Int.eq_ofNat_of_zero_le a0
  obtain ⟨j, rfl⟩ := Int.eq_ofNat_of_zero_le b0
  rw [Int.toNat_natCast, Int.toNat_natCast]
  have hcl := fun w' hx => hcl w' hx hW
  have hln := classesG_length g hW
  have hb : ((((classesG g).getD i 0 : Nat) : Int) == (((classesG g).getD j 0 : Nat) : Int)) = sameG g i j := by
   unfold sameG; rw [Bool.eq_iff_iff, beq_iff_eq, decide_eq_true_eq]; omega
  have Hop := Lib.hid hop
  have Hcl := Lib.hid hcl
  have Hb := Lib.hid hb
  have Hln := Lib.hid hln
  clear hop hcl hg hG hT h0 hab hW hb hln
  go_enter Tryz.func20, Tryz.ntmps20
  go_wp2_with fail
  refine Hop.out.mono ?_
  rintro e w1 ⟨rfl, hx1⟩
  have Hx1 := Lib.hid (((Ext.refl w).alloc (.cells #[.int .i64 i, .int .i64 j] 3)).trans hx1)
  clear hx1
  go_wp2_with fail
  refine (Hcl.out _ (Hx1.out.alloc _)).mono ?_
  rintro e w2 ⟨v, rfl, hv, hx2⟩
  obtain ⟨Av, cv, rfl, hs⟩ := Sl.nat hv.any
  obtain ⟨bb, off, rfl, c1⟩ := hs i (by rw [Hln.out]; omega)
  obtain ⟨bb', off', e2, c2⟩ := hs j (by rw [Hln.out]; omega)
  simp only [Option.some.injEq, Addr.mk.injEq, and_true] at e2
  obtain ⟨rfl, rfl⟩ := e2
  have hb := Hb.out
  have Hx2 := Lib.hid ((Hx1.out.alloc _).trans hx2)
  generalize (classesG g).getD i 0 = ci at c1 hb
  generalize (classesG g).getD j 0 = cj at c2 hb
  rw [Hln.out]
  clear hs hv hx2
  go_wp2_with fail
  go_quiet (fail)
  go_wp2_with fail
  go_ret2
  exact ⟨rfl, Hx2.out.drewN _⟩
 ·rw [if_neg h0]
  have hne : (errG g [a, b] != 0) = true := by simpa using h0
  generalize errG g [a, b] = er at hop hne ⊢
  have Hop := Lib.hid hop
  clear hop hcl hg hG hT h0
  go_enter Tryz.func20, Tryz.ntmps20
  go_wp2_with fail
  refine Hop.out.mono ?_
  rintro e w1 ⟨rfl, hx1⟩
  go_wp2_with fail
  go_ret2
  exact ⟨rfl, (((Ext.refl w).alloc _).trans hx1).alloc _⟩
end Go.Proofs.YtldnjnnhfeobdaaGreatDoor
/- Contracts: types in new memory with other references: what is called for parts and methods; slices.Clone. Conditions: lengths below 2^20. -/
namespace Go.Proofs.YtldnjnnhfeobdaaGreatDoor
open Go.RowKit Go.Shelf
/-- a function value that turns references -/
structure ToP (w : World) (g : Nat) (cb : Array Value) (f : Int → Int) (ok : Int → Prop) : Prop where
 ent : Enters Tryz.prog g
 run : ∀ i, ok i → ∀ w', Ext w w' → Calls Tryz.prog g (#[.int .i64 i] ++ cb) w' (Ret w' (.int .i64 (f i)))
theorem ToP.later {w w1 : World} {g : Nat} {cb : Array Value} {f : Int → Int} {ok : Int → Prop} (h : ToP w g cb f ok) (hx : Ext w w1) : ToP w1 g cb f ok :=
 ⟨h.ent, fun i hi w' hw => h.run i hi w' (hx.trans hw)⟩
theorem ToP.map {w : World} {g : Nat} {cb : Array Value} {f : Int → Int} {ok : Int → Prop} (h : ToP w g cb f ok) (xs : List Int) (hx : ∀ x ∈ xs, ok x) : MapP intE intE w g cb xs f :=
 ⟨h.ent, by
  rintro x hm w' A hxt ⟨_, rfl, rfl⟩
  exact res_int (h.run x (hx x hm) w' hxt)⟩
def turnP (f : Int → Int) (p : Part) : Part := ⟨p.name, f p.type⟩
def turnM (f : Int → Int) (m : Method) : Method := ⟨m.name, m.args.map f, if 0 ≤ m.result then f m.result else m.result, m.raises, m.proc⟩
def turnT (f : Int → Int) (t : Ty) : Ty := { t with super := if hasSuperB t.kind then f t.super else t.super, parts := t.parts.map (turnP f), methods := t.methods.map (turnM f) }
set_option maxRecDepth 100000 in
set_option maxHeartbeats 4000000 in
theorem moved1_any (w : World) (bf g : Nat) (cb : Array Value) (f : Int → Int) (ok : Int → Prop) (p : Part) (hc : w.cell? ⟨bf, 0, none⟩ = some (.func (.func g) #[] cb)) (hT : ToP w g cb f ok) (hok : ok p.type) :
  Calls Tryz.prog 124 #[.agg #[.string p.name, .int .i64 p.type], .pointer (some ⟨bf, 0, none⟩)] w (RetP w (Res partE w (turnP f p))) := by
 have hlt := cell_lt hc
 have eg : ∀ args w, (callFunc g args).run Tryz.prog w = .ok (.enter g args) w := hT.ent
 have hr := fun w' hx => hT.run p.type hok w' hx
 have Hr := Lib.hid hr
 obtain ⟨W, hW⟩ : ∃ W, (w.alloc (.cells #[.string p.name, .int .i64 p.type] 95)).alloc (.cells #[.string ⟨#[]⟩, .int .i64 0] 95) = W := ⟨_, rfl⟩
 have hxW : Ext w W := hW ▸ (((Ext.refl w).alloc _).alloc _)
 have b0 : W.heap[w.heap.size]? = some (.cells #[.string p.name, .int .i64 p.type] 95 (0, 0)) := by
  rw [← hW]; exact (Below.heap_alloc _ _ _ (by simp)).trans (heap_alloc_self w _)
 have b1 : W.heap[w.heap.size + 1]? = some (.cells #[.string ⟨#[]⟩, .int .i64 0] 95 (0, 0)) := by
  have h := heap_alloc_self (w.alloc (.cells #[.string p.name, .int .i64 p.type] 95)) (.cells #[.string ⟨#[]⟩, .int .i64 0] 95)
  rw [World.size_alloc, hW] at h; exact h
 have hS : ∀ w', Ext W w' → (w'.cell? ⟨bf, 0, none⟩ = some (.func (.func g) #[] cb) ∧ w'.cell? ⟨w.heap.size, 0, none⟩ = some (.string p.name) ∧ w'.cell? ⟨w.heap.size, 1, none⟩ = some (.int .i64 p.type)) := fun w' h => ⟨h.cell (hxW.cell hc), heap_cell (h.heap b0) 0 _ rfl, heap_cell (h.heap b0) 1 _ rfl⟩
 have hSt : ∀ (w' : World) (v u : Value), (w'.cell? ⟨bf, 0, none⟩ = some (.func (.func g) #[] cb) ∧ w'.cell? ⟨w.heap.size, 0, none⟩ = some (.string p.name) ∧ w'.cell? ⟨w.heap.size, 1, none⟩ = some (.int .i64 p.type)) → (fun w' => (w'.cell? ⟨bf, 0, none⟩ = some (.func (.func g) #[] cb) ∧ w'.cell? ⟨w.heap.size, 0, none⟩ = some (.string p.name) ∧ w'.cell? ⟨w.heap.size, 1, none⟩ = some (.int .i64 p.type))) ((w'.setCell ⟨w.heap.size + 1, 0, none⟩ v).setCell ⟨w.heap.size + 1, 1, none⟩ u) := fun w' v u h => by
  have e : ∀ (w' : World) k i v, k ≠ w.heap.size + 1 → (w'.setCell ⟨w.heap.size + 1, i, none⟩ v).heap[k]? = w'.heap[k]? := fun w' k i v hk => Below.heap_setCell _ _ _ _ hk
  have e2 : ∀ k o x, k ≠ w.heap.size + 1 → w'.cell? ⟨k, o, none⟩ = some x → ((w'.setCell ⟨w.heap.size + 1, 0, none⟩ v).setCell ⟨w.heap.size + 1, 1, none⟩ u).cell? ⟨k, o, none⟩ = some x := fun k o x hk hx =>
   (World.cell?_of_block (w := w') (a := ⟨k, o, none⟩) ((e _ _ _ _ hk).trans (e _ _ _ _ hk))).trans hx
  exact ⟨e2 _ _ _ (by omega) h.1, e2 _ _ _ (by omega) h.2.1, e2 _ _ _ (by omega) h.2.2⟩
 have HS := Lib.hid hS
 have HSt := Lib.hid hSt
 have HxW := Lib.hid hxW
 have B1 := Lib.hid b1
 have hWs : w.heap.size + 2 = W.heap.size := by rw [← hW]; simp
 have Hr2 := Lib.hid (fun w' hx => Hr.out w' (hxW.trans hx))
 clear hT hr hS hSt hc hxW b0 b1
 go_enter Tryz.func124, Tryz.ntmps124
 go_wp2_with fail
 try rw [hW]
 clear hW
 go_region_held3 (fun w' => (w'.cell? ⟨bf, 0, none⟩ = some (.func (.func g) #[] cb) ∧ w'.cell? ⟨w.heap.size, 0, none⟩ = some (.string p.name) ∧ w'.cell? ⟨w.heap.size, 1, none⟩ = some (.int .i64 p.type))) (first | exact HS.out _ (Ext.refl _).drew | exact HS.out _ hx2 | exact HSt.out _ _ _ (HS.out _ hx2)) ((refine (Hr2.out _ (Ext.refl W).drew).mono ?_; rintro e w2 ⟨rfl, hx0⟩; have hx2 := (Ext.refl W).drew.trans hx0; have k0 := heap_cell (hx2.heap B1.out) 0 _ rfl; have k1 := heap_cell (hx2.heap B1.out) 1 _ rfl; have f0 := heap_frozen (hx2.heap B1.out) 0; have f1 := heap_frozen (hx2.heap B1.out) 1; have l1 := cell_lt k0))
 all_goals
  have hb := heap_set (heap_set (hx2.heap B1.out) 0 (.string p.name)) 1 (.int .i64 (f p.type))
  have HB := Lib.hid hb
  have Hx2 := Lib.hid hx2
  clear hx2 hx0 k0 k1 f0 f1 hb
  go_wp2_with fail
  have d0 := heap_cell HB.out 0 _ rfl
  have d1 := heap_cell HB.out 1 _ rfl
  exact bodyPost_ret (v := .agg #[.string p.name, .int .i64 (f p.type)]) (by simp [results, Tryz.results124, go_sem, d0, d1]) rfl ⟨_, rfl, ⟨_, rfl, rfl⟩, ((HxW.out.trans Hx2.out).setCell (by simp) _).setCell (by simp) _⟩
end Go.Proofs.YtldnjnnhfeobdaaGreatDoor
/- Contracts: slices.Clone of words and of rules; the append of a whole slice. Conditions: lengths below 2^20. -/
namespace Go.Proofs.YtldnjnnhfeobdaaGreatDoor
open Go.RowKit Go.Shelf
theorem list_choose {β : Type} [Inhabited β] : ∀ (n : Nat) (P : Nat → β → Prop), (∀ i, i < n → ∃ y, P i y) → ∃ l : List β, l.length = n ∧ ∀ i y, l[i]? = some y → P i y
 | 0, P, _ => ⟨[], rfl, fun i y h => by simp at h⟩
 | n + 1, P, h => by
  obtain ⟨l, hl, hP⟩ := list_choose n P (fun i hi => h i (by omega))
  obtain ⟨y, hy⟩ := h n (by omega)
  refine ⟨l ++ [y], by simp [hl], fun i z hz => ?_⟩
  by_cases hi : i < l.length
  ·rw [List.getElem?_append_left hi] at hz; exact hP i z hz
  ·rw [List.getElem?_append_right (by omega)] at hz
   have h0 : i - l.length = 0 := by have := (List.getElem?_eq_some_iff.1 hz).1; simp at this; omega
   rw [h0] at hz
   simp at hz
   subst hz
   have : i = n := by omega
   subst this; exact hy
theorem flatten_len {k : Nat} (rows : List (List Value)) (h : ∀ r ∈ rows, r.length = k) : rows.flatten.length = rows.length * k := by
 induction rows with
 | nil => simp
 | cons r rows ih =>
  rw [List.flatten_cons, List.length_append, ih (fun r hr => h r (by simp [hr])), h r (by simp), List.length_cons, Nat.add_mul]; omega
theorem flatten_inv {k : Nat} (hk0 : 0 < k) (rows : List (List Value)) (hk : ∀ r ∈ rows, r.length = k) (j : Nat) (u : Value) (h : rows.flatten[j]? = some u) :
  ∃ r, rows[j / k]? = some r ∧ r[j % k]? = some u := by
 have hj : j < rows.length * k := by
  have := (List.getElem?_eq_some_iff.1 h).1
  rwa [flatten_len rows hk] at this
 have hi : j / k < rows.length := Nat.div_lt_of_lt_mul (by rw [Nat.mul_comm]; exact hj)
 have hr : rows[j / k]? = some (rows[j / k]'hi) := List.getElem?_eq_getElem hi
 have hl : (rows[j / k]'hi).length = k := hk _ (List.getElem_mem _)
 have hm : j % k < (rows[j / k]'hi).length := by rw [hl]; exact Nat.mod_lt _ hk0
 have hu := flatten_get rows hk _ _ _ _ hr (List.getElem?_eq_getElem hm)
 rw [Nat.div_add_mod'] at hu
 rw [hu] at h
 injection h with h
 exact ⟨_, hr, by rw [List.getElem?_eq_getElem hm, h]⟩
/-- an element whose relation asks for nothing behind its cells -/
def FlatE {α : Type} (E : Elt α) : Prop := ∀ F G w w' x cs, E.rel F w x cs → E.rel G w' x cs
theorem flat_str : FlatE strE := fun _ _ _ _ _ _ h => h
theorem flat_int : FlatE intE := fun _ _ _ _ _ _ h => h
theorem flat_over : FlatE overE := fun _ _ _ _ _ _ h => h
theorem flat_part : FlatE partE := fun _ _ _ _ _ _ h => h
theorem Own.made {α : Type} (F : Nat → Prop) (E : Elt α) (w : World) (base : Nat) (e : TypeId) (hb : base ≤ w.heap.size) : Own F E (w.alloc (.cells #[] e)) base e (.slice (some ⟨w.heap.size, 0, none⟩) 0 0) [] :=
 ⟨[], rfl, by simpa using World.ownsRow_made (base := base) (e := e) (size := E.k) w #[] 0 hb (Nat.zero_le _) (by simp), fun i x r h => by simp at h⟩
section
variable {P : Program} {ops : Array Oper} {rest : List Oper} {o : Oper} {a : Act} {Q : Exit → Act → World → Prop}
theorem own_append_all {α : Type} {F : Nat → Prop} (E : Elt α) (hflat : FlatE E) {W : World} (base : Nat) (hgd : o.guard = none) (s x : Operand) (t e : TypeId) (bytes : Nat)
  (ho : o.op = .call { callee := .builtin .append, args := #[s, x], argTypes := #[t, t] }) (hI : SliceOf P t e E.k bytes)
  (v : Value) (xs ys : List α) (ad : Addr) (n c : Nat) (hs : a.eval s = v) (hx : a.eval x = .slice (some ad) n c)
  (HO : Own F E W base e v xs) (hy : Sl E W (.slice (some ad) n c) ys) (hbase : base ≤ W.heap.size) (hl : (xs.length + ys.length) * bytes ≤ 140737488355328) (hb0 : 0 < bytes)
  (h : ∀ v1 w1, Own F E w1 base e v1 (xs ++ ys) → W.grownBy w1 v.ownBlock → wpList P ops Q rest (a.put o.dst v1) w1) :
  wpList P ops Q (o :: rest) a W := by
 obtain ⟨i, z, hi, hz, hsz, hby, hzs⟩ := hI.info
 obtain ⟨rows, hrl, hown, hr⟩ := HO
 obtain ⟨A, c', hA, hy⟩ := hy
 injection hA with hA hn hc
 subst hA hn hc
 obtain ⟨rows2, hl2, hr2⟩ := list_choose (β := List Value) ys.length (fun i r => ∃ y, ys[i]? = some y ∧ E.rel Any W y r ∧ ∀ j u, r[j]? = some u → W.cell? (ad.add (i * E.k + j)) = some u) (fun i hi => by
  obtain ⟨b, off, cs, hA, _, hrel, hcell⟩ := hy i ys[i] (List.getElem?_eq_getElem hi)
  injection hA with hA
  subst hA
  exact ⟨cs, ys[i], List.getElem?_eq_getElem hi, hrel, fun j u hj => by rw [Addr.add_lit, ← Nat.add_assoc]; exact hcell j u hj⟩)
 have hk : ∀ r ∈ rows2, r.length = E.k := by
  intro r hm
  obtain ⟨i, hi, rfl⟩ := List.mem_iff_getElem.1 hm
  obtain ⟨y, _, hrel, _⟩ := hr2 i _ (List.getElem?_eq_getElem hi)
  exact E.len _ _ _ _ hrel
 have hlen : xs.length + ys.length ≤ 140737488355328 := Nat.le_trans (Nat.le_mul_of_pos_right _ hb0) hl
 refine wpList_append_own_at W hgd s x t ho base e i z E.k bytes hI.under hi hz hsz hby hzs E.pos v xs.length rows.flatten hs hown ad ys.length _ rows2.flatten hx (by rw [flatten_len _ hk, hl2])
  (fun j u hj => ?_) (fun u hu => ?_) (by simp only [maxLen]; omega) hl hbase ?_
 ·obtain ⟨r, h1, h2⟩ := flatten_inv E.pos rows2 hk j u hj
  obtain ⟨y, _, _, hcell⟩ := hr2 _ _ h1
  have := hcell _ _ h2
  rwa [Nat.div_add_mod'] at this
 ·obtain ⟨r, hm, hu⟩ := List.mem_flatten.1 hu
  obtain ⟨i, hi, rfl⟩ := List.mem_iff_getElem.1 hm
  obtain ⟨y, _, hrel, _⟩ := hr2 i _ (List.getElem?_eq_getElem hi)
  exact E.one _ _ _ _ hrel u hu
 ·intro v1 w1 hown1 hg _ hat
  refine h v1 w1 ⟨rows ++ rows2, by simp [hrl, hl2], by simpa using hown1, ?_⟩ hg
  intro k x1 r h1 h2
  by_cases hk' : k < xs.length
  ·rw [List.getElem?_append_left hk'] at h1
   rw [List.getElem?_append_left (by omega)] at h2
   exact hflat _ _ _ _ _ _ (hr k x1 r h1 h2)
  ·rw [List.getElem?_append_right (by omega)] at h1
   rw [List.getElem?_append_right (by omega), hrl] at h2
   obtain ⟨y, e1, hrel, _⟩ := hr2 _ _ h2
   rw [e1] at h1
   injection h1 with h1
   subst h1
   exact hflat _ _ _ _ _ _ hrel
end
set_option maxHeartbeats 2000000 in
set_option maxRecDepth 100000 in
theorem clone_str (w : World) (v : Value) (xs : List ByteArray) (hv : Sl strE w v xs) (hn : xs.length ≤ 1048576) :
  Calls Tryz.prog 127 #[v] w (RetP w (fun w' u => SlF (New w) strE w' u xs)) := by
 obtain ⟨A, cap, rfl, hs⟩ := id hv
 have q : ∀ (w : World) (a : Option Addr) (n c n' c' : Nat), (binOp .eql 70 (.slice a n c) (.slice none n' c')).run Tryz.prog w = .ok (.bool a.isNone) w := fun w a n c n' c' => Lib.run_eql_slice_nil w _ _ a n c n' c' Tryz.underlying70
 cases A with
 | none =>
  have h0 : xs = [] := by
   cases xs with
   | nil => rfl
   | cons x l => obtain ⟨_, _, _, hA, _⟩ := hs 0 x rfl; simp at hA
  subst h0
  go_enter Tryz.func127, Tryz.ntmps127
  go_wp2_with fail
  go_ret
  exact ⟨_, rfl, SlF.nil _ _ _, Ext.refl _⟩
 | some ad =>
  have Hv := Lib.hid hv
  clear hv hs
  go_enter Tryz.func127, Tryz.ntmps127
  go_wp2_with (at_builtin; refine own_append_all (F := New w) strE flat_str w.heap.size rfl _ _ 70 9 16 rfl slice70 _ [] xs ad _ _ rfl rfl (Own.made _ _ w _ _ (Nat.le_refl _)) (Hv.out.mono ((Ext.refl w).alloc _)) (by simp) (by simp; omega) (by decide) ?_)
  intro v1 w1 hown hg
  go_wp2_with fail
  go_ret
  have hown : Own (New w) strE w1 w.heap.size 9 v1 xs := by simpa using hown
  refine ⟨_, rfl, hown.sl (fun b hb => hb), ?_⟩
  exact ((Below.refl _ w).alloc (Nat.le_refl _) _).grown hg (by simp) (by intro k hk; simp [Value.ownBlock] at hk; omega)
set_option maxHeartbeats 2000000 in
set_option maxRecDepth 100000 in
theorem clone_over (w : World) (v : Value) (xs : List Over) (hv : Sl overE w v xs) (hn : xs.length ≤ 1048576) :
  Calls Tryz.prog 128 #[v] w (RetP w (fun w' u => SlF (New w) overE w' u xs)) := by
 obtain ⟨A, cap, rfl, hs⟩ := id hv
 have q : ∀ (w : World) (a : Option Addr) (n c n' c' : Nat), (binOp .eql 40 (.slice a n c) (.slice none n' c')).run Tryz.prog w = .ok (.bool a.isNone) w := fun w a n c n' c' => Lib.run_eql_slice_nil w _ _ a n c n' c' Tryz.underlying40
 cases A with
 | none =>
  have h0 : xs = [] := by
   cases xs with
   | nil => rfl
   | cons x l => obtain ⟨_, _, _, hA, _⟩ := hs 0 x rfl; simp at hA
  subst h0
  go_enter Tryz.func128, Tryz.ntmps128
  go_wp2_with fail
  go_ret
  exact ⟨_, rfl, SlF.nil _ _ _, Ext.refl _⟩
 | some ad =>
  have Hv := Lib.hid hv
  clear hv hs
  go_enter Tryz.func128, Tryz.ntmps128
  go_wp2_with (at_builtin; refine own_append_all (F := New w) overE flat_over w.heap.size rfl _ _ 40 117 32 rfl slice40 _ [] xs ad _ _ rfl rfl (Own.made _ _ w _ _ (Nat.le_refl _)) (Hv.out.mono ((Ext.refl w).alloc _)) (by simp) (by simp; omega) (by decide) ?_)
  intro v1 w1 hown hg
  go_wp2_with fail
  go_ret
  have hown : Own (New w) overE w1 w.heap.size 117 v1 xs := by simpa using hown
  refine ⟨_, rfl, hown.sl (fun b hb => hb), ?_⟩
  exact ((Below.refl _ w).alloc (Nat.le_refl _) _).grown hg (by simp) (by intro k hk; simp [Value.ownBlock] at hk; omega)
end Go.Proofs.YtldnjnnhfeobdaaGreatDoor
/- Contracts: a method in new memory with other references. Conditions: lengths below 2^20. -/
namespace Go.Proofs.YtldnjnnhfeobdaaGreatDoor
open Go.RowKit Go.Shelf
/-- behind the first statement: both boxes -/
def MvMid (w : World) (m : Method) (f : Int → Int) (wx : World) : Prop := ∃ A1 c1 A2 c2,
 wx.heap[w.heap.size]? = some (.cells #[.string m.name, .slice A1 m.args.length c1, .int .i64 m.result, .slice A2 m.raises.length c2, .string m.proc] 74 (0, 0)) ∧
 wx.heap[w.heap.size + 1]? = some (.cells #[.string ⟨#[]⟩, .slice none 0 0, .int .i64 0, .slice none 0 0, .string ⟨#[]⟩] 74 (0, 0)) ∧ Ext w wx ∧
 SlF (fun b => w.heap.size + 2 ≤ b) intE wx (.slice A1 m.args.length c1) (m.args.map f) ∧ SlF (fun b => w.heap.size + 2 ≤ b) strE wx (.slice A2 m.raises.length c2) m.raises
theorem MvMid.of {w w2 : World} {m : Method} {f : Int → Int} {A1 A2 : Option Addr} {c1 c2 : Nat} {o : Value} {o2 : Value} (hx : Ext w w2) (h0 : w2.heap[w.heap.size]? = some (.cells #[.string m.name, o, .int .i64 m.result, o2, .string m.proc] 74 (0, 0)))
  (h1 : w2.heap[w.heap.size + 1]? = some (.cells #[.string ⟨#[]⟩, .slice none 0 0, .int .i64 0, .slice none 0 0, .string ⟨#[]⟩] 74 (0, 0))) (ha : SlF (fun b => w.heap.size + 2 ≤ b) intE w2 (.slice A1 m.args.length c1) (m.args.map f)) (hr : SlF (fun b => w.heap.size + 2 ≤ b) strE w2 (.slice A2 m.raises.length c2) m.raises) :
  MvMid w m f ((w2.setCell ⟨w.heap.size, 1, none⟩ (.slice A1 m.args.length c1)).setCell ⟨w.heap.size, 3, none⟩ (.slice A2 m.raises.length c2)) := by
 have hk : ∀ b, b ≠ w.heap.size → ((w2.setCell ⟨w.heap.size, 1, none⟩ (.slice A1 m.args.length c1)).setCell ⟨w.heap.size, 3, none⟩ (.slice A2 m.raises.length c2)).heap[b]? = w2.heap[b]? := fun b hb =>
  (Below.heap_setCell _ _ _ _ (fun e => hb e)).trans (Below.heap_setCell _ _ _ _ (fun e => hb e))
 refine ⟨A1, c1, A2, c2, ?_, (hk _ (by omega)).trans h1, (hx.setCell (Nat.le_refl _) _).setCell (Nat.le_refl _) _, ha.mono (fun b hb _ => hk b (by omega)) (fun b hb _ => hb), hr.mono (fun b hb _ => hk b (by omega)) (fun b hb _ => hb)⟩
 exact heap_set (heap_set h0 1 _) 3 _
set_option maxRecDepth 100000 in
set_option maxHeartbeats 16000000 in
theorem moved2_any (w : World) (bf g : Nat) (cb : Array Value) (f : Int → Int) (ok : Int → Prop) (m : Method) (va vr : Value) (hc : w.cell? ⟨bf, 0, none⟩ = some (.func (.func g) #[] cb)) (hT : ToP w g cb f ok)
  (ha : Sl intE w va m.args) (hr : Sl strE w vr m.raises) (han : m.args.length ≤ 1048576) (hrn : m.raises.length ≤ 1048576) (hok : ∀ a ∈ m.args, ok a) (hres : 0 ≤ m.result → ok m.result) :
  Calls Tryz.prog 126 #[.agg #[.string m.name, va, .int .i64 m.result, vr, .string m.proc], .pointer (some ⟨bf, 0, none⟩)] w (RetP w (Res methodE w (turnM f m))) := by
 have hlt := cell_lt hc
 have eg : ∀ args w, (callFunc g args).run Tryz.prog w = .ok (.enter g args) w := hT.ent
 have htu := fun (w' : World) (h : Ext w w') => turned_int_int g cb w' va m.args f (ha.mono h) han ((hT.later h).map m.args hok)
 have hcl := fun (w' : World) (h : Ext w w') => clone_str w' vr m.raises (hr.mono h) hrn
 have hrun := fun (w' : World) (h : Ext w w') (h0 : 0 ≤ m.result) => hT.run m.result (hres h0) w' h
 obtain ⟨Aa, ca, rfl⟩ := ha.len
 obtain ⟨Ar, cr, rfl⟩ := hr.len
 have Htu := Lib.hid htu
 have Hc0 := Lib.hid hc
 have Hcl := Lib.hid hcl
 have Hrun := Lib.hid hrun
 clear htu hcl hrun hT ha hr hok hres
 obtain ⟨W, hW⟩ : ∃ W, (w.alloc (.cells #[.string m.name, .slice Aa m.args.length ca, .int .i64 m.result, .slice Ar m.raises.length cr, .string m.proc] 74)).alloc (.cells #[.string ⟨#[]⟩, .slice none 0 0, .int .i64 0, .slice none 0 0, .string ⟨#[]⟩] 74) = W := ⟨_, rfl⟩
 have hxW : Ext w W := hW ▸ (((Ext.refl w).alloc _).alloc _)
 have b0 : W.heap[w.heap.size]? = some (.cells #[.string m.name, .slice Aa m.args.length ca, .int .i64 m.result, .slice Ar m.raises.length cr, .string m.proc] 74 (0, 0)) := by
  rw [← hW]; exact (Below.heap_alloc _ _ _ (by simp)).trans (heap_alloc_self w _)
 have b1 : W.heap[w.heap.size + 1]? = some (.cells #[.string ⟨#[]⟩, .slice none 0 0, .int .i64 0, .slice none 0 0, .string ⟨#[]⟩] 74 (0, 0)) := by
  have h := heap_alloc_self (w.alloc (.cells #[.string m.name, .slice Aa m.args.length ca, .int .i64 m.result, .slice Ar m.raises.length cr, .string m.proc] 74)) (.cells #[.string ⟨#[]⟩, .slice none 0 0, .int .i64 0, .slice none 0 0, .string ⟨#[]⟩] 74)
  rw [World.size_alloc, hW] at h; exact h
 have hcW := hxW.cell hc
 have k1 := heap_cell b0 1 _ rfl
 have k3 := heap_cell b0 3 _ rfl
 have hS : ∀ w', Ext W w' → w'.cell? ⟨bf, 0, none⟩ = some (.func (.func g) #[] cb) := fun w' h => h.cell (hxW.cell hc)
 have hSt : ∀ (w' : World) (i : Nat) (v : Value), w'.cell? ⟨bf, 0, none⟩ = some (.func (.func g) #[] cb) → (w'.setCell ⟨w.heap.size, i, none⟩ v).cell? ⟨bf, 0, none⟩ = some (.func (.func g) #[] cb) := fun w' i v h =>
  (World.cell?_of_block (w := w') (a := ⟨bf, 0, none⟩) (Below.heap_setCell _ _ _ _ (by simp; omega))).trans h
 have HS := Lib.hid hS
 have HSt := Lib.hid hSt
 have HxW := Lib.hid hxW
 have B0 := Lib.hid b0
 have B1 := Lib.hid b1
 have hWs : w.heap.size + 2 = W.heap.size := by rw [← hW]; simp
 clear hS hSt hc hxW b0 b1
 go_enter Tryz.func126, Tryz.ntmps126
 go_upto_region 1 with fail
 try rw [hW]
 clear hW
 go_cut [8] (fun s8 wx => Hid (MvMid w m f wx))
 case first =>
  refine wp_region_anyX (by kernel_rfl) ?_
  refine any_val (i := 0) (v := ?_) (some 4) #[true, false, false, false, false, false, false, false, false, false, false, false, false, false, false] rfl rfl rfl (by kernel_rfl) (by kernel_rfl) (by kernel_rfl) (fun _ _ _ h => h) (Or.inl ⟨by rfl, ?_⟩) ?_
  rotate_left
  ·intro w
   go_simp
   (first | done | exact rfl)
  simp only [Act.put, List.setIfInBounds_toArray, List.set_cons_zero, List.set_cons_succ]
  refine any_val (i := 1) (v := ?_) (some 5) #[true, true, false, false, false, false, false, false, false, false, false, false, false, false, false] rfl rfl rfl (by kernel_rfl) (by kernel_rfl) (by kernel_rfl) (fun _ _ _ h => h) (Or.inl ⟨by rfl, ?_⟩) ?_
  rotate_left
  ·intro w
   go_simp
   (first | done | exact rfl)
  simp only [Act.put, List.setIfInBounds_toArray, List.set_cons_zero, List.set_cons_succ]
  refine any_val (i := 5) (v := ?_) (some 9) #[true, true, false, false, false, true, false, false, false, false, false, false, false, false, false] rfl rfl rfl (by kernel_rfl) (by kernel_rfl) (by kernel_rfl) (fun _ _ _ h => h) (Or.inl ⟨by rfl, ?_⟩) ?_
  rotate_left
  ·intro w
   go_simp
   (first | done | exact rfl)
  simp only [Act.put, List.setIfInBounds_toArray, List.set_cons_zero, List.set_cons_succ]
  refine any_val (i := 6) (v := ?_) (some 10) #[true, true, false, false, false, true, true, false, false, false, false, false, false, false, false] rfl rfl rfl (by kernel_rfl) (by kernel_rfl) (by kernel_rfl) (fun _ _ _ h => h) (Or.inl ⟨by rfl, ?_⟩) ?_
  rotate_left
  ·intro w
   go_simp
   (first | done | exact rfl)
  simp only [Act.put, List.setIfInBounds_toArray, List.set_cons_zero, List.set_cons_succ]
  refine wpAny_ready (rs := [2, 3, 7]) (by kernel_rfl) (by simp) (AllReady.cons rfl (fun K hK => ?_) (AllReady.cons rfl (fun K hK => ?_) (AllReady.cons rfl (fun K hK => ?_) AllReady.nil)))
  ·go_simp
   refine hK _ _ ?_
   clear hK K
   refine wpAny_ready (rs := [3, 7]) (by kernel_rfl) (by simp) (AllReady.cons rfl (fun K hK => ?_) (AllReady.cons rfl (fun K hK => ?_) AllReady.nil))
   ·go_simp
    refine hK _ _ ?_
    clear hK K
    refine wpAny_ready (rs := [4, 7]) (by kernel_rfl) (by simp) (AllReady.cons rfl (fun K hK => ?_) (AllReady.cons rfl (fun K hK => ?_) AllReady.nil))
    ·go_simp
     refine (Htu.out _ (HxW.out.trans (Ext.refl W).drew)).mono ?_
     rintro e w1 ⟨v1, rfl, hv1, hx1⟩
     obtain ⟨A1, c1, rfl⟩ := hv1.any.len
     rw [List.length_map] at hv1 ⊢
     have hx2 := (Ext.refl W).drew.trans hx1
     have Hv1 := Lib.hid (hv1.mono (G := fun b => w.heap.size + 2 ≤ b) (fun _ _ _ => rfl) (fun b hb _ => (by have h5 := (Ext.refl W).drew.size; unfold New at hb; simp at hb h5; omega)))
     have k3' := heap_cell (hx2.heap B0.out) 3 _ rfl
     have Hx2 := Lib.hid hx2
     clear hx1 hv1 hx2
     refine hK _ _ ?_
     clear hK K
     refine wpAny_ready (rs := [7]) (by kernel_rfl) (by simp) (AllReady.cons rfl (fun K hK => ?_) AllReady.nil)
     go_simp
     refine hK _ _ ?_
     clear hK K
     refine any_val (i := 9) (v := ?_) (some 13) #[true, true, true, true, true, true, true, true, false, true, false, false, false, false, false] rfl rfl rfl (by kernel_rfl) (by kernel_rfl) (by kernel_rfl) (fun _ _ _ h => h) (Or.inl ⟨by rfl, ?_⟩) ?_
     rotate_left
     ·intro w
      go_simp
      (first | done | exact rfl)
     simp only [Act.put, List.setIfInBounds_toArray, List.set_cons_zero, List.set_cons_succ]
     refine any_val (i := 10) (v := ?_) (some 14) #[true, true, true, true, true, true, true, true, false, true, true, false, false, false, false] rfl rfl rfl (by kernel_rfl) (by kernel_rfl) (by kernel_rfl) (fun _ _ _ h => h) (Or.inl ⟨by rfl, ?_⟩) ?_
     rotate_left
     ·intro w
      go_simp
      (first | done | exact rfl)
     simp only [Act.put, List.setIfInBounds_toArray, List.set_cons_zero, List.set_cons_succ]
     refine wpAny_ready (rs := [8]) (by kernel_rfl) (by simp) (AllReady.cons rfl (fun K hK => ?_) AllReady.nil)
     go_simp
     refine (Hcl.out _ (HxW.out.trans Hx2.out)).mono ?_
     rintro e w2 ⟨v2, rfl, hv2, hx0⟩
     obtain ⟨A2, c2, rfl⟩ := hv2.any.len
     have hx3 := Hx2.out.trans hx0
     replace Hv1 := Lib.hid (Hv1.out.ext hx0)
     have Hv2 := Lib.hid (hv2.mono (G := fun b => w.heap.size + 2 ≤ b) (fun _ _ _ => rfl) (fun b hb _ => (by have h6 := Hx2.out.size; unfold New at hb; omega)))
     have b3 := hx3.heap B0.out
     have j1 := heap_cell b3 1 _ rfl
     have j3 := heap_cell b3 3 _ rfl
     have f1 := heap_frozen b3 1
     have f3 := heap_frozen b3 3
     have l1 := cell_lt j1
     have Hx3 := Lib.hid hx3
     have Hb3 := Lib.hid b3
     clear hx0 hv2 hx3 b3 k3'
     refine hK _ _ ?_
     clear hK K
     refine wpAny_ready (rs := [11]) (by kernel_rfl) (by simp) (AllReady.cons rfl (fun K hK => ?_) AllReady.nil)
     go_simp
     refine hK _ _ ?_
     clear hK K
     refine any_val (i := 12) (v := ?_) (some 15) #[true, true, true, true, true, true, true, true, true, true, true, true, true, false, false] rfl rfl rfl (by kernel_rfl) (by kernel_rfl) (by kernel_rfl) (fun _ _ _ h => h) (Or.inl ⟨by rfl, ?_⟩) ?_
     rotate_left
     ·intro w
      go_simp
      (first | done | exact rfl)
     simp only [Act.put, List.setIfInBounds_toArray, List.set_cons_zero, List.set_cons_succ]
     refine any_val (i := 13) (v := ?_) (some 16) #[true, true, true, true, true, true, true, true, true, true, true, true, true, true, false] rfl rfl rfl (by kernel_rfl) (by kernel_rfl) (by kernel_rfl) (fun _ _ _ h => h) (Or.inl ⟨by rfl, ?_⟩) ?_
     rotate_left
     ·intro w
      go_simp
      (first | done | exact rfl)
     simp only [Act.put, List.setIfInBounds_toArray, List.set_cons_zero, List.set_cons_succ]
     refine wpAny_ready (rs := [14]) (by kernel_rfl) (by simp) (AllReady.cons rfl (fun K hK => ?_) AllReady.nil)
     go_simp
     refine hK _ _ ?_
     clear hK K
     refine wpAny_done (by kernel_rfl) ?_ _
     clear j1 j3 f1 f3 l1
     go_wp2_with fail
     go_meet
     exact Lib.hid (MvMid.of (HxW.out.trans Hx3.out) Hb3.out (Hx3.out.heap B1.out) Hv1.out Hv2.out)
    ·go_simp
     refine hK _ _ ?_
     clear hK K
     refine wpAny_ready (rs := [4]) (by kernel_rfl) (by simp) (AllReady.cons rfl (fun K hK => ?_) AllReady.nil)
     go_simp
     refine (Htu.out _ (HxW.out.trans (Ext.refl W).drew)).mono ?_
     rintro e w1 ⟨v1, rfl, hv1, hx1⟩
     obtain ⟨A1, c1, rfl⟩ := hv1.any.len
     rw [List.length_map] at hv1 ⊢
     have hx2 := (Ext.refl W).drew.trans hx1
     have Hv1 := Lib.hid (hv1.mono (G := fun b => w.heap.size + 2 ≤ b) (fun _ _ _ => rfl) (fun b hb _ => (by have h5 := (Ext.refl W).drew.size; unfold New at hb; simp at hb h5; omega)))
     have k3' := heap_cell (hx2.heap B0.out) 3 _ rfl
     have Hx2 := Lib.hid hx2
     clear hx1 hv1 hx2
     refine hK _ _ ?_
     clear hK K
     refine any_val (i := 9) (v := ?_) (some 13) #[true, true, true, true, true, true, true, true, false, true, false, false, false, false, false] rfl rfl rfl (by kernel_rfl) (by kernel_rfl) (by kernel_rfl) (fun _ _ _ h => h) (Or.inl ⟨by rfl, ?_⟩) ?_
     rotate_left
     ·intro w
      go_simp
      (first | done | exact rfl)
     simp only [Act.put, List.setIfInBounds_toArray, List.set_cons_zero, List.set_cons_succ]
     refine any_val (i := 10) (v := ?_) (some 14) #[true, true, true, true, true, true, true, true, false, true, true, false, false, false, false] rfl rfl rfl (by kernel_rfl) (by kernel_rfl) (by kernel_rfl) (fun _ _ _ h => h) (Or.inl ⟨by rfl, ?_⟩) ?_
     rotate_left
     ·intro w
      go_simp
      (first | done | exact rfl)
     simp only [Act.put, List.setIfInBounds_toArray, List.set_cons_zero, List.set_cons_succ]
     refine wpAny_ready (rs := [8]) (by kernel_rfl) (by simp) (AllReady.cons rfl (fun K hK => ?_) AllReady.nil)
     go_simp
     refine (Hcl.out _ (HxW.out.trans Hx2.out)).mono ?_
     rintro e w2 ⟨v2, rfl, hv2, hx0⟩
     obtain ⟨A2, c2, rfl⟩ := hv2.any.len
     have hx3 := Hx2.out.trans hx0
     replace Hv1 := Lib.hid (Hv1.out.ext hx0)
     have Hv2 := Lib.hid (hv2.mono (G := fun b => w.heap.size + 2 ≤ b) (fun _ _ _ => rfl) (fun b hb _ => (by have h6 := Hx2.out.size; unfold New at hb; omega)))
     have b3 := hx3.heap B0.out
     have j1 := heap_cell b3 1 _ rfl
     have j3 := heap_cell b3 3 _ rfl
     have f1 := heap_frozen b3 1
     have f3 := heap_frozen b3 3
     have l1 := cell_lt j1
     have Hx3 := Lib.hid hx3
     have Hb3 := Lib.hid b3
     clear hx0 hv2 hx3 b3 k3'
     refine hK _ _ ?_
     clear hK K
     refine wpAny_ready (rs := [11]) (by kernel_rfl) (by simp) (AllReady.cons rfl (fun K hK => ?_) AllReady.nil)
     go_simp
     refine hK _ _ ?_
     clear hK K
     refine any_val (i := 12) (v := ?_) (some 15) #[true, true, true, true, true, true, true, true, true, true, true, true, true, false, false] rfl rfl rfl (by kernel_rfl) (by kernel_rfl) (by kernel_rfl) (fun _ _ _ h => h) (Or.inl ⟨by rfl, ?_⟩) ?_
     rotate_left
     ·intro w
      go_simp
      (first | done | exact rfl)
     simp only [Act.put, List.setIfInBounds_toArray, List.set_cons_zero, List.set_cons_succ]
     refine any_val (i := 13) (v := ?_) (some 16) #[true, true, true, true, true, true, true, true, true, true, true, true, true, true, false] rfl rfl rfl (by kernel_rfl) (by kernel_rfl) (by kernel_rfl) (fun _ _ _ h => h) (Or.inl ⟨by rfl, ?_⟩) ?_
     rotate_left
     ·intro w
      go_simp
      (first | done | exact rfl)
     simp only [Act.put, List.setIfInBounds_toArray, List.set_cons_zero, List.set_cons_succ]
     refine wpAny_ready (rs := [14]) (by kernel_rfl) (by simp) (AllReady.cons rfl (fun K hK => ?_) AllReady.nil)
     go_simp
     refine hK _ _ ?_
     clear hK K
     refine wpAny_done (by kernel_rfl) ?_ _
     clear j1 j3 f1 f3 l1
     go_wp2_with fail
     go_meet
     exact Lib.hid (MvMid.of (HxW.out.trans Hx3.out) Hb3.out (Hx3.out.heap B1.out) Hv1.out Hv2.out)
   ·go_simp
    refine hK _ _ ?_
    clear hK K
    refine wpAny_ready (rs := [3]) (by kernel_rfl) (by simp) (AllReady.cons rfl (fun K hK => ?_) AllReady.nil)
    go_simp
    refine hK _ _ ?_
    clear hK K
    refine wpAny_ready (rs := [4]) (by kernel_rfl) (by simp) (AllReady.cons rfl (fun K hK => ?_) AllReady.nil)
    go_simp
    refine (Htu.out _ (HxW.out.trans (Ext.refl W).drew)).mono ?_
    rintro e w1 ⟨v1, rfl, hv1, hx1⟩
    obtain ⟨A1, c1, rfl⟩ := hv1.any.len
    rw [List.length_map] at hv1 ⊢
    have hx2 := (Ext.refl W).drew.trans hx1
    have Hv1 := Lib.hid (hv1.mono (G := fun b => w.heap.size + 2 ≤ b) (fun _ _ _ => rfl) (fun b hb _ => (by have h5 := (Ext.refl W).drew.size; unfold New at hb; simp at hb h5; omega)))
    have k3' := heap_cell (hx2.heap B0.out) 3 _ rfl
    have Hx2 := Lib.hid hx2
    clear hx1 hv1 hx2
    refine hK _ _ ?_
    clear hK K
    refine any_val (i := 9) (v := ?_) (some 13) #[true, true, true, true, true, true, true, true, false, true, false, false, false, false, false] rfl rfl rfl (by kernel_rfl) (by kernel_rfl) (by kernel_rfl) (fun _ _ _ h => h) (Or.inl ⟨by rfl, ?_⟩) ?_
    rotate_left
    ·intro w
     go_simp
     (first | done | exact rfl)
    simp only [Act.put, List.setIfInBounds_toArray, List.set_cons_zero, List.set_cons_succ]
    refine any_val (i := 10) (v := ?_) (some 14) #[true, true, true, true, true, true, true, true, false, true, true, false, false, false, false] rfl rfl rfl (by kernel_rfl) (by kernel_rfl) (by kernel_rfl) (fun _ _ _ h => h) (Or.inl ⟨by rfl, ?_⟩) ?_
    rotate_left
    ·intro w
     go_simp
     (first | done | exact rfl)
    simp only [Act.put, List.setIfInBounds_toArray, List.set_cons_zero, List.set_cons_succ]
    refine wpAny_ready (rs := [8]) (by kernel_rfl) (by simp) (AllReady.cons rfl (fun K hK => ?_) AllReady.nil)
    go_simp
    refine (Hcl.out _ (HxW.out.trans Hx2.out)).mono ?_
    rintro e w2 ⟨v2, rfl, hv2, hx0⟩
    obtain ⟨A2, c2, rfl⟩ := hv2.any.len
    have hx3 := Hx2.out.trans hx0
    replace Hv1 := Lib.hid (Hv1.out.ext hx0)
    have Hv2 := Lib.hid (hv2.mono (G := fun b => w.heap.size + 2 ≤ b) (fun _ _ _ => rfl) (fun b hb _ => (by have h6 := Hx2.out.size; unfold New at hb; omega)))
    have b3 := hx3.heap B0.out
    have j1 := heap_cell b3 1 _ rfl
    have j3 := heap_cell b3 3 _ rfl
    have f1 := heap_frozen b3 1
    have f3 := heap_frozen b3 3
    have l1 := cell_lt j1
    have Hx3 := Lib.hid hx3
    have Hb3 := Lib.hid b3
    clear hx0 hv2 hx3 b3 k3'
    refine hK _ _ ?_
    clear hK K
    refine wpAny_ready (rs := [11]) (by kernel_rfl) (by simp) (AllReady.cons rfl (fun K hK => ?_) AllReady.nil)
    go_simp
    refine hK _ _ ?_
    clear hK K
    refine any_val (i := 12) (v := ?_) (some 15) #[true, true, true, true, true, true, true, true, true, true, true, true, true, false, false] rfl rfl rfl (by kernel_rfl) (by kernel_rfl) (by kernel_rfl) (fun _ _ _ h => h) (Or.inl ⟨by rfl, ?_⟩) ?_
    rotate_left
    ·intro w
     go_simp
     (first | done | exact rfl)
    simp only [Act.put, List.setIfInBounds_toArray, List.set_cons_zero, List.set_cons_succ]
    refine any_val (i := 13) (v := ?_) (some 16) #[true, true, true, true, true, true, true, true, true, true, true, true, true, true, false] rfl rfl rfl (by kernel_rfl) (by kernel_rfl) (by kernel_rfl) (fun _ _ _ h => h) (Or.inl ⟨by rfl, ?_⟩) ?_
    rotate_left
    ·intro w
     go_simp
     (first | done | exact rfl)
    simp only [Act.put, List.setIfInBounds_toArray, List.set_cons_zero, List.set_cons_succ]
    refine wpAny_ready (rs := [14]) (by kernel_rfl) (by simp) (AllReady.cons rfl (fun K hK => ?_) AllReady.nil)
    go_simp
    refine hK _ _ ?_
    clear hK K
    refine wpAny_done (by kernel_rfl) ?_ _
    clear j1 j3 f1 f3 l1
    go_wp2_with fail
    go_meet
    exact Lib.hid (MvMid.of (HxW.out.trans Hx3.out) Hb3.out (Hx3.out.heap B1.out) Hv1.out Hv2.out)
  ·go_simp
   refine hK _ _ ?_
   clear hK K
   refine wpAny_ready (rs := [2, 7]) (by kernel_rfl) (by simp) (AllReady.cons rfl (fun K hK => ?_) (AllReady.cons rfl (fun K hK => ?_) AllReady.nil))
   ·go_simp
    refine hK _ _ ?_
    clear hK K
    refine wpAny_ready (rs := [4, 7]) (by kernel_rfl) (by simp) (AllReady.cons rfl (fun K hK => ?_) (AllReady.cons rfl (fun K hK => ?_) AllReady.nil))
    ·go_simp
     refine (Htu.out _ (HxW.out.trans (Ext.refl W).drew)).mono ?_
     rintro e w1 ⟨v1, rfl, hv1, hx1⟩
     obtain ⟨A1, c1, rfl⟩ := hv1.any.len
     rw [List.length_map] at hv1 ⊢
     have hx2 := (Ext.refl W).drew.trans hx1
     have Hv1 := Lib.hid (hv1.mono (G := fun b => w.heap.size + 2 ≤ b) (fun _ _ _ => rfl) (fun b hb _ => (by have h5 := (Ext.refl W).drew.size; unfold New at hb; simp at hb h5; omega)))
     have k3' := heap_cell (hx2.heap B0.out) 3 _ rfl
     have Hx2 := Lib.hid hx2
     clear hx1 hv1 hx2
     refine hK _ _ ?_
     clear hK K
     refine wpAny_ready (rs := [7]) (by kernel_rfl) (by simp) (AllReady.cons rfl (fun K hK => ?_) AllReady.nil)
     go_simp
     refine hK _ _ ?_
     clear hK K
     refine any_val (i := 9) (v := ?_) (some 13) #[true, true, true, true, true, true, true, true, false, true, false, false, false, false, false] rfl rfl rfl (by kernel_rfl) (by kernel_rfl) (by kernel_rfl) (fun _ _ _ h => h) (Or.inl ⟨by rfl, ?_⟩) ?_
     rotate_left
     ·intro w
      go_simp
      (first | done | exact rfl)
     simp only [Act.put, List.setIfInBounds_toArray, List.set_cons_zero, List.set_cons_succ]
     refine any_val (i := 10) (v := ?_) (some 14) #[true, true, true, true, true, true, true, true, false, true, true, false, false, false, false] rfl rfl rfl (by kernel_rfl) (by kernel_rfl) (by kernel_rfl) (fun _ _ _ h => h) (Or.inl ⟨by rfl, ?_⟩) ?_
     rotate_left
     ·intro w
      go_simp
      (first | done | exact rfl)
     simp only [Act.put, List.setIfInBounds_toArray, List.set_cons_zero, List.set_cons_succ]
     refine wpAny_ready (rs := [8]) (by kernel_rfl) (by simp) (AllReady.cons rfl (fun K hK => ?_) AllReady.nil)
     go_simp
     refine (Hcl.out _ (HxW.out.trans Hx2.out)).mono ?_
     rintro e w2 ⟨v2, rfl, hv2, hx0⟩
     obtain ⟨A2, c2, rfl⟩ := hv2.any.len
     have hx3 := Hx2.out.trans hx0
     replace Hv1 := Lib.hid (Hv1.out.ext hx0)
     have Hv2 := Lib.hid (hv2.mono (G := fun b => w.heap.size + 2 ≤ b) (fun _ _ _ => rfl) (fun b hb _ => (by have h6 := Hx2.out.size; unfold New at hb; omega)))
     have b3 := hx3.heap B0.out
     have j1 := heap_cell b3 1 _ rfl
     have j3 := heap_cell b3 3 _ rfl
     have f1 := heap_frozen b3 1
     have f3 := heap_frozen b3 3
     have l1 := cell_lt j1
     have Hx3 := Lib.hid hx3
     have Hb3 := Lib.hid b3
     clear hx0 hv2 hx3 b3 k3'
     refine hK _ _ ?_
     clear hK K
     refine wpAny_ready (rs := [11]) (by kernel_rfl) (by simp) (AllReady.cons rfl (fun K hK => ?_) AllReady.nil)
     go_simp
     refine hK _ _ ?_
     clear hK K
     refine any_val (i := 12) (v := ?_) (some 15) #[true, true, true, true, true, true, true, true, true, true, true, true, true, false, false] rfl rfl rfl (by kernel_rfl) (by kernel_rfl) (by kernel_rfl) (fun _ _ _ h => h) (Or.inl ⟨by rfl, ?_⟩) ?_
     rotate_left
     ·intro w
      go_simp
      (first | done | exact rfl)
     simp only [Act.put, List.setIfInBounds_toArray, List.set_cons_zero, List.set_cons_succ]
     refine any_val (i := 13) (v := ?_) (some 16) #[true, true, true, true, true, true, true, true, true, true, true, true, true, true, false] rfl rfl rfl (by kernel_rfl) (by kernel_rfl) (by kernel_rfl) (fun _ _ _ h => h) (Or.inl ⟨by rfl, ?_⟩) ?_
     rotate_left
     ·intro w
      go_simp
      (first | done | exact rfl)
     simp only [Act.put, List.setIfInBounds_toArray, List.set_cons_zero, List.set_cons_succ]
     refine wpAny_ready (rs := [14]) (by kernel_rfl) (by simp) (AllReady.cons rfl (fun K hK => ?_) AllReady.nil)
     go_simp
     refine hK _ _ ?_
     clear hK K
     refine wpAny_done (by kernel_rfl) ?_ _
     clear j1 j3 f1 f3 l1
     go_wp2_with fail
     go_meet
     exact Lib.hid (MvMid.of (HxW.out.trans Hx3.out) Hb3.out (Hx3.out.heap B1.out) Hv1.out Hv2.out)
    ·go_simp
     refine hK _ _ ?_
     clear hK K
     refine wpAny_ready (rs := [4]) (by kernel_rfl) (by simp) (AllReady.cons rfl (fun K hK => ?_) AllReady.nil)
     go_simp
     refine (Htu.out _ (HxW.out.trans (Ext.refl W).drew)).mono ?_
     rintro e w1 ⟨v1, rfl, hv1, hx1⟩
     obtain ⟨A1, c1, rfl⟩ := hv1.any.len
     rw [List.length_map] at hv1 ⊢
     have hx2 := (Ext.refl W).drew.trans hx1
     have Hv1 := Lib.hid (hv1.mono (G := fun b => w.heap.size + 2 ≤ b) (fun _ _ _ => rfl) (fun b hb _ => (by have h5 := (Ext.refl W).drew.size; unfold New at hb; simp at hb h5; omega)))
     have k3' := heap_cell (hx2.heap B0.out) 3 _ rfl
     have Hx2 := Lib.hid hx2
     clear hx1 hv1 hx2
     refine hK _ _ ?_
     clear hK K
     refine any_val (i := 9) (v := ?_) (some 13) #[true, true, true, true, true, true, true, true, false, true, false, false, false, false, false] rfl rfl rfl (by kernel_rfl) (by kernel_rfl) (by kernel_rfl) (fun _ _ _ h => h) (Or.inl ⟨by rfl, ?_⟩) ?_
     rotate_left
     ·intro w
      go_simp
      (first | done | exact rfl)
     simp only [Act.put, List.setIfInBounds_toArray, List.set_cons_zero, List.set_cons_succ]
     refine any_val (i := 10) (v := ?_) (some 14) #[true, true, true, true, true, true, true, true, false, true, true, false, false, false, false] rfl rfl rfl (by kernel_rfl) (by kernel_rfl) (by kernel_rfl) (fun _ _ _ h => h) (Or.inl ⟨by rfl, ?_⟩) ?_
     rotate_left
     ·intro w
      go_simp
      (first | done | exact rfl)
     simp only [Act.put, List.setIfInBounds_toArray, List.set_cons_zero, List.set_cons_succ]
     refine wpAny_ready (rs := [8]) (by kernel_rfl) (by simp) (AllReady.cons rfl (fun K hK => ?_) AllReady.nil)
     go_simp
     refine (Hcl.out _ (HxW.out.trans Hx2.out)).mono ?_
     rintro e w2 ⟨v2, rfl, hv2, hx0⟩
     obtain ⟨A2, c2, rfl⟩ := hv2.any.len
     have hx3 := Hx2.out.trans hx0
     replace Hv1 := Lib.hid (Hv1.out.ext hx0)
     have Hv2 := Lib.hid (hv2.mono (G := fun b => w.heap.size + 2 ≤ b) (fun _ _ _ => rfl) (fun b hb _ => (by have h6 := Hx2.out.size; unfold New at hb; omega)))
     have b3 := hx3.heap B0.out
     have j1 := heap_cell b3 1 _ rfl
     have j3 := heap_cell b3 3 _ rfl
     have f1 := heap_frozen b3 1
     have f3 := heap_frozen b3 3
     have l1 := cell_lt j1
     have Hx3 := Lib.hid hx3
     have Hb3 := Lib.hid b3
     clear hx0 hv2 hx3 b3 k3'
     refine hK _ _ ?_
     clear hK K
     refine wpAny_ready (rs := [11]) (by kernel_rfl) (by simp) (AllReady.cons rfl (fun K hK => ?_) AllReady.nil)
     go_simp
     refine hK _ _ ?_
     clear hK K
     refine any_val (i := 12) (v := ?_) (some 15) #[true, true, true, true, true, true, true, true, true, true, true, true, true, false, false] rfl rfl rfl (by kernel_rfl) (by kernel_rfl) (by kernel_rfl) (fun _ _ _ h => h) (Or.inl ⟨by rfl, ?_⟩) ?_
     rotate_left
     ·intro w
      go_simp
      (first | done | exact rfl)
     simp only [Act.put, List.setIfInBounds_toArray, List.set_cons_zero, List.set_cons_succ]
     refine any_val (i := 13) (v := ?_) (some 16) #[true, true, true, true, true, true, true, true, true, true, true, true, true, true, false] rfl rfl rfl (by kernel_rfl) (by kernel_rfl) (by kernel_rfl) (fun _ _ _ h => h) (Or.inl ⟨by rfl, ?_⟩) ?_
     rotate_left
     ·intro w
      go_simp
      (first | done | exact rfl)
     simp only [Act.put, List.setIfInBounds_toArray, List.set_cons_zero, List.set_cons_succ]
     refine wpAny_ready (rs := [14]) (by kernel_rfl) (by simp) (AllReady.cons rfl (fun K hK => ?_) AllReady.nil)
     go_simp
     refine hK _ _ ?_
     clear hK K
     refine wpAny_done (by kernel_rfl) ?_ _
     clear j1 j3 f1 f3 l1
     go_wp2_with fail
     go_meet
     exact Lib.hid (MvMid.of (HxW.out.trans Hx3.out) Hb3.out (Hx3.out.heap B1.out) Hv1.out Hv2.out)
   ·go_simp
    refine hK _ _ ?_
    clear hK K
    refine wpAny_ready (rs := [2]) (by kernel_rfl) (by simp) (AllReady.cons rfl (fun K hK => ?_) AllReady.nil)
    go_simp
    refine hK _ _ ?_
    clear hK K
    refine wpAny_ready (rs := [4]) (by kernel_rfl) (by simp) (AllReady.cons rfl (fun K hK => ?_) AllReady.nil)
    go_simp
    refine (Htu.out _ (HxW.out.trans (Ext.refl W).drew)).mono ?_
    rintro e w1 ⟨v1, rfl, hv1, hx1⟩
    obtain ⟨A1, c1, rfl⟩ := hv1.any.len
    rw [List.length_map] at hv1 ⊢
    have hx2 := (Ext.refl W).drew.trans hx1
    have Hv1 := Lib.hid (hv1.mono (G := fun b => w.heap.size + 2 ≤ b) (fun _ _ _ => rfl) (fun b hb _ => (by have h5 := (Ext.refl W).drew.size; unfold New at hb; simp at hb h5; omega)))
    have k3' := heap_cell (hx2.heap B0.out) 3 _ rfl
    have Hx2 := Lib.hid hx2
    clear hx1 hv1 hx2
    refine hK _ _ ?_
    clear hK K
    refine any_val (i := 9) (v := ?_) (some 13) #[true, true, true, true, true, true, true, true, false, true, false, false, false, false, false] rfl rfl rfl (by kernel_rfl) (by kernel_rfl) (by kernel_rfl) (fun _ _ _ h => h) (Or.inl ⟨by rfl, ?_⟩) ?_
    rotate_left
    ·intro w
     go_simp
     (first | done | exact rfl)
    simp only [Act.put, List.setIfInBounds_toArray, List.set_cons_zero, List.set_cons_succ]
    refine any_val (i := 10) (v := ?_) (some 14) #[true, true, true, true, true, true, true, true, false, true, true, false, false, false, false] rfl rfl rfl (by kernel_rfl) (by kernel_rfl) (by kernel_rfl) (fun _ _ _ h => h) (Or.inl ⟨by rfl, ?_⟩) ?_
    rotate_left
    ·intro w
     go_simp
     (first | done | exact rfl)
    simp only [Act.put, List.setIfInBounds_toArray, List.set_cons_zero, List.set_cons_succ]
    refine wpAny_ready (rs := [8]) (by kernel_rfl) (by simp) (AllReady.cons rfl (fun K hK => ?_) AllReady.nil)
    go_simp
    refine (Hcl.out _ (HxW.out.trans Hx2.out)).mono ?_
    rintro e w2 ⟨v2, rfl, hv2, hx0⟩
    obtain ⟨A2, c2, rfl⟩ := hv2.any.len
    have hx3 := Hx2.out.trans hx0
    replace Hv1 := Lib.hid (Hv1.out.ext hx0)
    have Hv2 := Lib.hid (hv2.mono (G := fun b => w.heap.size + 2 ≤ b) (fun _ _ _ => rfl) (fun b hb _ => (by have h6 := Hx2.out.size; unfold New at hb; omega)))
    have b3 := hx3.heap B0.out
    have j1 := heap_cell b3 1 _ rfl
    have j3 := heap_cell b3 3 _ rfl
    have f1 := heap_frozen b3 1
    have f3 := heap_frozen b3 3
    have l1 := cell_lt j1
    have Hx3 := Lib.hid hx3
    have Hb3 := Lib.hid b3
    clear hx0 hv2 hx3 b3 k3'
    refine hK _ _ ?_
    clear hK K
    refine wpAny_ready (rs := [11]) (by kernel_rfl) (by simp) (AllReady.cons rfl (fun K hK => ?_) AllReady.nil)
    go_simp
    refine hK _ _ ?_
    clear hK K
    refine any_val (i := 12) (v := ?_) (some 15) #[true, true, true, true, true, true, true, true, true, true, true, true, true, false, false] rfl rfl rfl (by kernel_rfl) (by kernel_rfl) (by kernel_rfl) (fun _ _ _ h => h) (Or.inl ⟨by rfl, ?_⟩) ?_
    rotate_left
    ·intro w
     go_simp
     (first | done | exact rfl)
    simp only [Act.put, List.setIfInBounds_toArray, List.set_cons_zero, List.set_cons_succ]
    refine any_val (i := 13) (v := ?_) (some 16) #[true, true, true, true, true, true, true, true, true, true, true, true, true, true, false] rfl rfl rfl (by kernel_rfl) (by kernel_rfl) (by kernel_rfl) (fun _ _ _ h => h) (Or.inl ⟨by rfl, ?_⟩) ?_
    rotate_left
    ·intro w
     go_simp
     (first | done | exact rfl)
    simp only [Act.put, List.setIfInBounds_toArray, List.set_cons_zero, List.set_cons_succ]
    refine wpAny_ready (rs := [14]) (by kernel_rfl) (by simp) (AllReady.cons rfl (fun K hK => ?_) AllReady.nil)
    go_simp
    refine hK _ _ ?_
    clear hK K
    refine wpAny_done (by kernel_rfl) ?_ _
    clear j1 j3 f1 f3 l1
    go_wp2_with fail
    go_meet
    exact Lib.hid (MvMid.of (HxW.out.trans Hx3.out) Hb3.out (Hx3.out.heap B1.out) Hv1.out Hv2.out)
  ·go_simp
   refine hK _ _ ?_
   clear hK K
   refine wpAny_ready (rs := [2, 3]) (by kernel_rfl) (by simp) (AllReady.cons rfl (fun K hK => ?_) (AllReady.cons rfl (fun K hK => ?_) AllReady.nil))
   ·go_simp
    refine hK _ _ ?_
    clear hK K
    refine wpAny_ready (rs := [3]) (by kernel_rfl) (by simp) (AllReady.cons rfl (fun K hK => ?_) AllReady.nil)
    go_simp
    refine hK _ _ ?_
    clear hK K
    refine wpAny_ready (rs := [4]) (by kernel_rfl) (by simp) (AllReady.cons rfl (fun K hK => ?_) AllReady.nil)
    go_simp
    refine (Htu.out _ (HxW.out.trans (Ext.refl W).drew)).mono ?_
    rintro e w1 ⟨v1, rfl, hv1, hx1⟩
    obtain ⟨A1, c1, rfl⟩ := hv1.any.len
    rw [List.length_map] at hv1 ⊢
    have hx2 := (Ext.refl W).drew.trans hx1
    have Hv1 := Lib.hid (hv1.mono (G := fun b => w.heap.size + 2 ≤ b) (fun _ _ _ => rfl) (fun b hb _ => (by have h5 := (Ext.refl W).drew.size; unfold New at hb; simp at hb h5; omega)))
    have k3' := heap_cell (hx2.heap B0.out) 3 _ rfl
    have Hx2 := Lib.hid hx2
    clear hx1 hv1 hx2
    refine hK _ _ ?_
    clear hK K
    refine any_val (i := 9) (v := ?_) (some 13) #[true, true, true, true, true, true, true, true, false, true, false, false, false, false, false] rfl rfl rfl (by kernel_rfl) (by kernel_rfl) (by kernel_rfl) (fun _ _ _ h => h) (Or.inl ⟨by rfl, ?_⟩) ?_
    rotate_left
    ·intro w
     go_simp
     (first | done | exact rfl)
    simp only [Act.put, List.setIfInBounds_toArray, List.set_cons_zero, List.set_cons_succ]
    refine any_val (i := 10) (v := ?_) (some 14) #[true, true, true, true, true, true, true, true, false, true, true, false, false, false, false] rfl rfl rfl (by kernel_rfl) (by kernel_rfl) (by kernel_rfl) (fun _ _ _ h => h) (Or.inl ⟨by rfl, ?_⟩) ?_
    rotate_left
    ·intro w
     go_simp
     (first | done | exact rfl)
    simp only [Act.put, List.setIfInBounds_toArray, List.set_cons_zero, List.set_cons_succ]
    refine wpAny_ready (rs := [8]) (by kernel_rfl) (by simp) (AllReady.cons rfl (fun K hK => ?_) AllReady.nil)
    go_simp
    refine (Hcl.out _ (HxW.out.trans Hx2.out)).mono ?_
    rintro e w2 ⟨v2, rfl, hv2, hx0⟩
    obtain ⟨A2, c2, rfl⟩ := hv2.any.len
    have hx3 := Hx2.out.trans hx0
    replace Hv1 := Lib.hid (Hv1.out.ext hx0)
    have Hv2 := Lib.hid (hv2.mono (G := fun b => w.heap.size + 2 ≤ b) (fun _ _ _ => rfl) (fun b hb _ => (by have h6 := Hx2.out.size; unfold New at hb; omega)))
    have b3 := hx3.heap B0.out
    have j1 := heap_cell b3 1 _ rfl
    have j3 := heap_cell b3 3 _ rfl
    have f1 := heap_frozen b3 1
    have f3 := heap_frozen b3 3
    have l1 := cell_lt j1
    have Hx3 := Lib.hid hx3
    have Hb3 := Lib.hid b3
    clear hx0 hv2 hx3 b3 k3'
    refine hK _ _ ?_
    clear hK K
    refine wpAny_ready (rs := [11]) (by kernel_rfl) (by simp) (AllReady.cons rfl (fun K hK => ?_) AllReady.nil)
    go_simp
    refine hK _ _ ?_
    clear hK K
    refine any_val (i := 12) (v := ?_) (some 15) #[true, true, true, true, true, true, true, true, true, true, true, true, true, false, false] rfl rfl rfl (by kernel_rfl) (by kernel_rfl) (by kernel_rfl) (fun _ _ _ h => h) (Or.inl ⟨by rfl, ?_⟩) ?_
    rotate_left
    ·intro w
     go_simp
     (first | done | exact rfl)
    simp only [Act.put, List.setIfInBounds_toArray, List.set_cons_zero, List.set_cons_succ]
    refine any_val (i := 13) (v := ?_) (some 16) #[true, true, true, true, true, true, true, true, true, true, true, true, true, true, false] rfl rfl rfl (by kernel_rfl) (by kernel_rfl) (by kernel_rfl) (fun _ _ _ h => h) (Or.inl ⟨by rfl, ?_⟩) ?_
    rotate_left
    ·intro w
     go_simp
     (first | done | exact rfl)
    simp only [Act.put, List.setIfInBounds_toArray, List.set_cons_zero, List.set_cons_succ]
    refine wpAny_ready (rs := [14]) (by kernel_rfl) (by simp) (AllReady.cons rfl (fun K hK => ?_) AllReady.nil)
    go_simp
    refine hK _ _ ?_
    clear hK K
    refine wpAny_done (by kernel_rfl) ?_ _
    clear j1 j3 f1 f3 l1
    go_wp2_with fail
    go_meet
    exact Lib.hid (MvMid.of (HxW.out.trans Hx3.out) Hb3.out (Hx3.out.heap B1.out) Hv1.out Hv2.out)
   ·go_simp
    refine hK _ _ ?_
    clear hK K
    refine wpAny_ready (rs := [2]) (by kernel_rfl) (by simp) (AllReady.cons rfl (fun K hK => ?_) AllReady.nil)
    go_simp
    refine hK _ _ ?_
    clear hK K
    refine wpAny_ready (rs := [4]) (by kernel_rfl) (by simp) (AllReady.cons rfl (fun K hK => ?_) AllReady.nil)
    go_simp
    refine (Htu.out _ (HxW.out.trans (Ext.refl W).drew)).mono ?_
    rintro e w1 ⟨v1, rfl, hv1, hx1⟩
    obtain ⟨A1, c1, rfl⟩ := hv1.any.len
    rw [List.length_map] at hv1 ⊢
    have hx2 := (Ext.refl W).drew.trans hx1
    have Hv1 := Lib.hid (hv1.mono (G := fun b => w.heap.size + 2 ≤ b) (fun _ _ _ => rfl) (fun b hb _ => (by have h5 := (Ext.refl W).drew.size; unfold New at hb; simp at hb h5; omega)))
    have k3' := heap_cell (hx2.heap B0.out) 3 _ rfl
    have Hx2 := Lib.hid hx2
    clear hx1 hv1 hx2
    refine hK _ _ ?_
    clear hK K
    refine any_val (i := 9) (v := ?_) (some 13) #[true, true, true, true, true, true, true, true, false, true, false, false, false, false, false] rfl rfl rfl (by kernel_rfl) (by kernel_rfl) (by kernel_rfl) (fun _ _ _ h => h) (Or.inl ⟨by rfl, ?_⟩) ?_
    rotate_left
    ·intro w
     go_simp
     (first | done | exact rfl)
    simp only [Act.put, List.setIfInBounds_toArray, List.set_cons_zero, List.set_cons_succ]
    refine any_val (i := 10) (v := ?_) (some 14) #[true, true, true, true, true, true, true, true, false, true, true, false, false, false, false] rfl rfl rfl (by kernel_rfl) (by kernel_rfl) (by kernel_rfl) (fun _ _ _ h => h) (Or.inl ⟨by rfl, ?_⟩) ?_
    rotate_left
    ·intro w
     go_simp
     (first | done | exact rfl)
    simp only [Act.put, List.setIfInBounds_toArray, List.set_cons_zero, List.set_cons_succ]
    refine wpAny_ready (rs := [8]) (by kernel_rfl) (by simp) (AllReady.cons rfl (fun K hK => ?_) AllReady.nil)
    go_simp
    refine (Hcl.out _ (HxW.out.trans Hx2.out)).mono ?_
    rintro e w2 ⟨v2, rfl, hv2, hx0⟩
    obtain ⟨A2, c2, rfl⟩ := hv2.any.len
    have hx3 := Hx2.out.trans hx0
    replace Hv1 := Lib.hid (Hv1.out.ext hx0)
    have Hv2 := Lib.hid (hv2.mono (G := fun b => w.heap.size + 2 ≤ b) (fun _ _ _ => rfl) (fun b hb _ => (by have h6 := Hx2.out.size; unfold New at hb; omega)))
    have b3 := hx3.heap B0.out
    have j1 := heap_cell b3 1 _ rfl
    have j3 := heap_cell b3 3 _ rfl
    have f1 := heap_frozen b3 1
    have f3 := heap_frozen b3 3
    have l1 := cell_lt j1
    have Hx3 := Lib.hid hx3
    have Hb3 := Lib.hid b3
    clear hx0 hv2 hx3 b3 k3'
    refine hK _ _ ?_
    clear hK K
    refine wpAny_ready (rs := [11]) (by kernel_rfl) (by simp) (AllReady.cons rfl (fun K hK => ?_) AllReady.nil)
    go_simp
    refine hK _ _ ?_
    clear hK K
    refine any_val (i := 12) (v := ?_) (some 15) #[true, true, true, true, true, true, true, true, true, true, true, true, true, false, false] rfl rfl rfl (by kernel_rfl) (by kernel_rfl) (by kernel_rfl) (fun _ _ _ h => h) (Or.inl ⟨by rfl, ?_⟩) ?_
    rotate_left
    ·intro w
     go_simp
     (first | done | exact rfl)
    simp only [Act.put, List.setIfInBounds_toArray, List.set_cons_zero, List.set_cons_succ]
    refine any_val (i := 13) (v := ?_) (some 16) #[true, true, true, true, true, true, true, true, true, true, true, true, true, true, false] rfl rfl rfl (by kernel_rfl) (by kernel_rfl) (by kernel_rfl) (fun _ _ _ h => h) (Or.inl ⟨by rfl, ?_⟩) ?_
    rotate_left
    ·intro w
     go_simp
     (first | done | exact rfl)
    simp only [Act.put, List.setIfInBounds_toArray, List.set_cons_zero, List.set_cons_succ]
    refine wpAny_ready (rs := [14]) (by kernel_rfl) (by simp) (AllReady.cons rfl (fun K hK => ?_) AllReady.nil)
    go_simp
    refine hK _ _ ?_
    clear hK K
    refine wpAny_done (by kernel_rfl) ?_ _
    clear j1 j3 f1 f3 l1
    go_wp2_with fail
    go_meet
    exact Lib.hid (MvMid.of (HxW.out.trans Hx3.out) Hb3.out (Hx3.out.heap B1.out) Hv1.out Hv2.out)
 case rest =>
  obtain ⟨A1, c1, A2, c2, q0, q1, hxx, hsa, hsr⟩ := hcut.out
  have Q0 := Lib.hid q0
  have Q1 := Lib.hid q1
  have Hxx := Lib.hid hxx
  have Hsa := Lib.hid hsa
  have Hsr := Lib.hid hsr
  have cbf := hxx.cell Hc0.out
  have lbf := cell_lt cbf
  have k2 := heap_cell q0 2 _ rfl
  have lk2 := cell_lt k2
  clear q0 q1 hxx hsa hsr hcut
  by_cases h0 : 0 ≤ m.result
  ·skip
   go_wp2_with fail
   refine (Hrun.out _ Hxx.out h0).mono ?_
   rintro e w6 ⟨rfl, hx6⟩
   have q0 := hx6.heap Q0.out
   have q1 := hx6.heap Q1.out
   have x0 := heap_cell q0 0 _ rfl
   have x1 := heap_cell q0 1 _ rfl
   have x2 := heap_cell q0 2 _ rfl
   have x3 := heap_cell q0 3 _ rfl
   have x4 := heap_cell q0 4 _ rfl
   have y0 := heap_cell q1 0 _ rfl
   have y1 := heap_cell q1 1 _ rfl
   have y2 := heap_cell q1 2 _ rfl
   have y3 := heap_cell q1 3 _ rfl
   have y4 := heap_cell q1 4 _ rfl
   have z0 := heap_frozen q1 0
   have z1 := heap_frozen q1 1
   have z2 := heap_frozen q1 2
   have z3 := heap_frozen q1 3
   have z4 := heap_frozen q1 4
   have z9 := heap_frozen q0 2
   have lx := cell_lt x0
   have ly := cell_lt y0
   have Hx6 := Lib.hid hx6
   have Hq1 := Lib.hid ((Below.heap_setCell w6 ⟨w.heap.size, 2, none⟩ (.int .i64 (f m.result)) (w.heap.size + 1) (by simp)).trans q1)
   clear hx6 q0 q1
   go_wp2_with fail
   have e5 := heap_set (heap_set (heap_set (heap_set (heap_set Hq1.out 0 (.string m.name)) 1 (.slice A1 m.args.length c1)) 2 (.int .i64 (f m.result))) 3 (.slice A2 m.raises.length c2)) 4 (.string m.proc)
   have d0 := heap_cell e5 0 _ rfl
   have d1 := heap_cell e5 1 _ rfl
   have d2 := heap_cell e5 2 _ rfl
   have d3 := heap_cell e5 3 _ rfl
   have d4 := heap_cell e5 4 _ rfl
   have hm : turnM f m = ⟨m.name, m.args.map f, f m.result, m.raises, m.proc⟩ := by unfold turnM; rw [if_pos h0]
   rw [hm]
   exact bodyPost_ret (v := .agg #[.string m.name, .slice A1 m.args.length c1, .int .i64 (f m.result), .slice A2 m.raises.length c2, .string m.proc]) (by simp [results, Tryz.results126, go_sem, d0, d1, d2, d3, d4]) rfl ⟨_, rfl, ⟨_, ⟨_, _, rfl, (Hsa.out.ext Hx6.out).mono (fun b hb _ => (by rw [Below.heap_setCell _ _ _ _ (by simp; omega), Below.heap_setCell _ _ _ _ (by simp; omega), Below.heap_setCell _ _ _ _ (by simp; omega), Below.heap_setCell _ _ _ _ (by simp; omega), Below.heap_setCell _ _ _ _ (by simp; omega), Below.heap_setCell _ _ _ _ (by simp; omega)])) (fun b hb _ => (by unfold New; omega)), (Hsr.out.ext Hx6.out).mono (fun b hb _ => (by rw [Below.heap_setCell _ _ _ _ (by simp; omega), Below.heap_setCell _ _ _ _ (by simp; omega), Below.heap_setCell _ _ _ _ (by simp; omega), Below.heap_setCell _ _ _ _ (by simp; omega), Below.heap_setCell _ _ _ _ (by simp; omega), Below.heap_setCell _ _ _ _ (by simp; omega)])) (fun b hb _ => (by unfold New; omega))⟩, rfl⟩, ((((((Hxx.out.trans Hx6.out).setCell (Nat.le_refl _) _).setCell (by simp) _).setCell (by simp) _).setCell (by simp) _).setCell (by simp) _).setCell (by simp) _⟩
  ·skip
   have q0 := Q0.out
   have q1 := Q1.out
   have x0 := heap_cell q0 0 _ rfl
   have x1 := heap_cell q0 1 _ rfl
   have x2 := heap_cell q0 2 _ rfl
   have x3 := heap_cell q0 3 _ rfl
   have x4 := heap_cell q0 4 _ rfl
   have y0 := heap_cell q1 0 _ rfl
   have y1 := heap_cell q1 1 _ rfl
   have y2 := heap_cell q1 2 _ rfl
   have y3 := heap_cell q1 3 _ rfl
   have y4 := heap_cell q1 4 _ rfl
   have z0 := heap_frozen q1 0
   have z1 := heap_frozen q1 1
   have z2 := heap_frozen q1 2
   have z3 := heap_frozen q1 3
   have z4 := heap_frozen q1 4
   have z9 := heap_frozen q0 2
   have lx := cell_lt x0
   have ly := cell_lt y0
   have Hq1 := Lib.hid q1
   clear q0 q1
   go_wp2_with fail
   have e5 := heap_set (heap_set (heap_set (heap_set (heap_set Hq1.out 0 (.string m.name)) 1 (.slice A1 m.args.length c1)) 2 (.int .i64 m.result)) 3 (.slice A2 m.raises.length c2)) 4 (.string m.proc)
   have d0 := heap_cell e5 0 _ rfl
   have d1 := heap_cell e5 1 _ rfl
   have d2 := heap_cell e5 2 _ rfl
   have d3 := heap_cell e5 3 _ rfl
   have d4 := heap_cell e5 4 _ rfl
   have hm : turnM f m = ⟨m.name, m.args.map f, m.result, m.raises, m.proc⟩ := by unfold turnM; rw [if_neg (by omega)]
   rw [hm]
   exact bodyPost_ret (v := .agg #[.string m.name, .slice A1 m.args.length c1, .int .i64 m.result, .slice A2 m.raises.length c2, .string m.proc]) (by simp [results, Tryz.results126, go_sem, d0, d1, d2, d3, d4]) rfl ⟨_, rfl, ⟨_, ⟨_, _, rfl, Hsa.out.mono (fun b hb _ => (by rw [Below.heap_setCell _ _ _ _ (by simp; omega), Below.heap_setCell _ _ _ _ (by simp; omega), Below.heap_setCell _ _ _ _ (by simp; omega), Below.heap_setCell _ _ _ _ (by simp; omega), Below.heap_setCell _ _ _ _ (by simp; omega)])) (fun b hb _ => (by unfold New; omega)), Hsr.out.mono (fun b hb _ => (by rw [Below.heap_setCell _ _ _ _ (by simp; omega), Below.heap_setCell _ _ _ _ (by simp; omega), Below.heap_setCell _ _ _ _ (by simp; omega), Below.heap_setCell _ _ _ _ (by simp; omega), Below.heap_setCell _ _ _ _ (by simp; omega)])) (fun b hb _ => (by unfold New; omega))⟩, rfl⟩, (((((Hxx.out).setCell (by simp) _).setCell (by simp) _).setCell (by simp) _).setCell (by simp) _).setCell (by simp) _⟩
end Go.Proofs.YtldnjnnhfeobdaaGreatDoor
/- Contract: a type in new memory with other references. Conditions: lengths below 2^20. -/
namespace Go.Proofs.YtldnjnnhfeobdaaGreatDoor
open Go.RowKit Go.Shelf
theorem map124 (w : World) (bf g : Nat) (cb : Array Value) (f : Int → Int) (ok : Int → Prop) (xs : List Part) (hc : w.cell? ⟨bf, 0, none⟩ = some (.func (.func g) #[] cb)) (hT : ToP w g cb f ok) (hx : ∀ p ∈ xs, ok p.type) :
  MapP partE partE w 124 #[.pointer (some ⟨bf, 0, none⟩)] xs (turnP f) :=
 ⟨enters_of Tryz.func124 (by kernel_rfl) rfl, by
  rintro x hxm w' A hxt ⟨_, rfl, rfl⟩
  exact moved1_any w' bf g cb f ok x (hxt.cell hc) (hT.later hxt) (hx x hxm)⟩
theorem map126 (w : World) (bf g : Nat) (cb : Array Value) (f : Int → Int) (ok : Int → Prop) (xs : List Method) (hc : w.cell? ⟨bf, 0, none⟩ = some (.func (.func g) #[] cb)) (hT : ToP w g cb f ok) (hs : ∀ m ∈ xs, MethodSmall m)
  (hx : ∀ m ∈ xs, (∀ a ∈ m.args, ok a) ∧ (0 ≤ m.result → ok m.result)) :
  MapP methodE methodE w 126 #[.pointer (some ⟨bf, 0, none⟩)] xs (turnM f) :=
 ⟨enters_of Tryz.func126 (by kernel_rfl) rfl, by
  rintro x hxm w' A hxt ⟨cs, ⟨va, vr, rfl, ha, hr⟩, rfl⟩
  exact moved2_any w' bf g cb f ok x va vr (hxt.cell hc) (hT.later hxt) ha hr (hs x hxm).2.2.1 (hs x hxm).2.2.2.1 (hx x hxm).1 (hx x hxm).2⟩
/-- while a type is turned: the box of it, that of the function, that of the result -/
structure MSt (w : World) (g : Nat) (cb : Array Value) (t : Ty) (vp vm vo : Value) (wr : World) : Prop where
 ext : Ext w wr
 box : TyBox wr w.heap.size t vp vm vo
 fbox : wr.heap[w.heap.size + 1]? = some (.cells #[.func (.func g) #[] cb] 103 (0, 0))
 zbox : TyBox wr (w.heap.size + 2) ty0 (.slice none 0 0) (.slice none 0 0) (.slice none 0 0)
section
variable {w : World} {g : Nat} {cb : Array Value} {t : Ty} {vp vm vo : Value} {wr wr' : World}
theorem MSt.later (h : MSt w g cb t vp vm vo wr) (hx : Ext wr wr') : MSt w g cb t vp vm vo wr' := ⟨h.ext.trans hx, h.box.ext hx, hx.heap h.fbox, h.zbox.ext hx⟩
theorem MSt.set (h : MSt w g cb t vp vm vo wr) (i : Nat) (v : Value) {t' : Ty} {vp' vm' vo' : Value} (hb : TyBox (wr.setCell ⟨w.heap.size, i, none⟩ v) w.heap.size t' vp' vm' vo') : MSt w g cb t' vp' vm' vo' (wr.setCell ⟨w.heap.size, i, none⟩ v) :=
 ⟨h.ext.setCell (Nat.le_refl _) _, hb, (Below.heap_setCell _ _ _ _ (by simp)).trans h.fbox, by unfold TyBox; rw [Below.heap_setCell _ _ _ _ (by simp)]; exact h.zbox⟩
theorem MSt.set6 (h : MSt w g cb t vp vm vo wr) (n : Int) : MSt w g cb { t with super := n } vp vm vo (wr.setCell ⟨w.heap.size, 6, none⟩ (.int .i64 n)) := h.set 6 _ (heap_set h.box 6 _)
theorem MSt.set7 (h : MSt w g cb t vp vm vo wr) (v : Value) : MSt w g cb t v vm vo (wr.setCell ⟨w.heap.size, 7, none⟩ v) := h.set 7 _ (heap_set h.box 7 _)
theorem MSt.set8 (h : MSt w g cb t vp vm vo wr) (v : Value) : MSt w g cb t vp v vo (wr.setCell ⟨w.heap.size, 8, none⟩ v) := h.set 8 _ (heap_set h.box 8 _)
theorem MSt.set9 (h : MSt w g cb t vp vm vo wr) (v : Value) : MSt w g cb t vp vm v (wr.setCell ⟨w.heap.size, 9, none⟩ v) := h.set 9 _ (heap_set h.box 9 _)
theorem MSt.fcell (h : MSt w g cb t vp vm vo wr) : wr.cell? ⟨w.heap.size + 1, 0, none⟩ = some (.func (.func g) #[] cb) := heap_cell h.fbox 0 _ rfl
end
theorem row10_set {w : World} {b : Nat} {t : TypeId} {fr : Nat × Nat} {a0 a1 a2 a3 a4 a5 a6 a7 a8 a9 : Value} (h : w.heap[b]? = some (.cells #[a0, a1, a2, a3, a4, a5, a6, a7, a8, a9] t fr)) (v0 v1 v2 v3 v4 v5 v6 v7 v8 v9 : Value) :
  ((((((((((w.setCell ⟨b, 0, none⟩ v0).setCell ⟨b, 1, none⟩ v1).setCell ⟨b, 2, none⟩ v2).setCell ⟨b, 3, none⟩ v3).setCell ⟨b, 4, none⟩ v4).setCell ⟨b, 5, none⟩ v5).setCell ⟨b, 6, none⟩ v6).setCell ⟨b, 7, none⟩ v7).setCell ⟨b, 8, none⟩ v8).setCell ⟨b, 9, none⟩ v9).heap[b]? = some (.cells #[v0, v1, v2, v3, v4, v5, v6, v7, v8, v9] t fr) := by
 have h0 := heap_set h 0 v0
 simp only [List.setIfInBounds_toArray, List.set_cons_zero, List.set_cons_succ] at h0
 have h1 := heap_set h0 1 v1
 simp only [List.setIfInBounds_toArray, List.set_cons_zero, List.set_cons_succ] at h1
 have h2 := heap_set h1 2 v2
 simp only [List.setIfInBounds_toArray, List.set_cons_zero, List.set_cons_succ] at h2
 have h3 := heap_set h2 3 v3
 simp only [List.setIfInBounds_toArray, List.set_cons_zero, List.set_cons_succ] at h3
 have h4 := heap_set h3 4 v4
 simp only [List.setIfInBounds_toArray, List.set_cons_zero, List.set_cons_succ] at h4
 have h5 := heap_set h4 5 v5
 simp only [List.setIfInBounds_toArray, List.set_cons_zero, List.set_cons_succ] at h5
 have h6 := heap_set h5 6 v6
 simp only [List.setIfInBounds_toArray, List.set_cons_zero, List.set_cons_succ] at h6
 have h7 := heap_set h6 7 v7
 simp only [List.setIfInBounds_toArray, List.set_cons_zero, List.set_cons_succ] at h7
 have h8 := heap_set h7 8 v8
 simp only [List.setIfInBounds_toArray, List.set_cons_zero, List.set_cons_succ] at h8
 have h9 := heap_set h8 9 v9
 simp only [List.setIfInBounds_toArray, List.set_cons_zero, List.set_cons_succ] at h9
 exact h9
theorem SlF.set {α : Type} {E : Elt α} {n : Nat} {w : World} {v : Value} {xs : List α} (h : SlF (fun b => n ≤ b) E w v xs) {b : Nat} (hb : b < n) (i : Nat) (u : Value) : SlF (fun b => n ≤ b) E (w.setCell ⟨b, i, none⟩ u) v xs :=
 h.mono (fun c hc _ => Below.heap_setCell _ _ _ _ (by simp; omega)) (fun _ h _ => h)
set_option maxRecDepth 100000 in
set_option maxHeartbeats 8000000 in
theorem moved_any (w : World) (g : Nat) (cb : Array Value) (f : Int → Int) (ok : Int → Prop) (t : Ty) (vp vm vo : Value) (hof : TyOf w t vp vm vo) (hs : TySmall t) (hT : ToP w g cb f ok) (hok : ∀ r ∈ refsL t, ok r) :
  Calls Tryz.prog 72 #[tyV t vp vm vo, .func (.func g) #[] cb] w (RetP w (Res tyE w (turnT f t))) := by
 have eg : ∀ args w, (callFunc g args).run Tryz.prog w = .ok (.enter g args) w := hT.ent
 have hkd := fun w' : World => hasSuper_any t.kind w'
 have hsup := fun (w' : World) (h : Ext w w') (h0 : hasSuperB t.kind = true) => hT.run t.super (hok _ (by unfold refsL refsS; rw [h0]; simp)) w' h
 have hpa := fun (w' : World) (h : Ext w w') (hc : w'.cell? ⟨w.heap.size + 1, 0, none⟩ = some (.func (.func g) #[] cb)) => turned_part_part 124 #[.pointer (some ⟨w.heap.size + 1, 0, none⟩)] w' vp t.parts (turnP f) (hof.parts.mono h) hs.parts (map124 w' _ g cb f ok t.parts hc (hT.later h) (fun p hp => hok _ (by unfold refsL; simp only [List.mem_append]; exact .inr (.inl (List.mem_map_of_mem hp)))))
 have hme := fun (w' : World) (h : Ext w w') (hc : w'.cell? ⟨w.heap.size + 1, 0, none⟩ = some (.func (.func g) #[] cb)) => turned_method_method 126 #[.pointer (some ⟨w.heap.size + 1, 0, none⟩)] w' vm t.methods (turnM f) (hof.methods.mono h) hs.methods (map126 w' _ g cb f ok t.methods hc (hT.later h) hs.method (fun m hm => ⟨fun a ha => hok _ (by unfold refsL; simp only [List.mem_append]; exact .inr (.inr (List.mem_flatMap.2 ⟨m, hm, by unfold refsM; simp [ha]⟩))), fun h0 => hok _ (by unfold refsL; simp only [List.mem_append]; exact .inr (.inr (List.mem_flatMap.2 ⟨m, hm, by unfold refsM; rw [if_pos h0]; simp⟩)))⟩))
 have hov := fun (w' : World) (h : Ext w w') => clone_over w' vo t.overs (hof.overs.mono h) hs.overs
 obtain ⟨Ap, cp, ep⟩ := hof.parts.len
 obtain ⟨Am, cm, em⟩ := hof.methods.len
 obtain ⟨Ao, co, eo⟩ := hof.overs.len
 subst ep em eo
 have Hkd := Lib.hid hkd
 have Hsup := Lib.hid hsup
 have Hpa := Lib.hid hpa
 have Hme := Lib.hid hme
 have Hov := Lib.hid hov
 clear hkd hsup hpa hme hov hT hof hok hs
 have hst : MSt w g cb t (.slice Ap t.parts.length cp) (.slice Am t.methods.length cm) (.slice Ao t.overs.length co) (((w.alloc (.cells #[.int .u8 t.kind, .int .i64 t.low, .int .i64 t.high, .bool t.branded, .string t.brand, .string t.opaq, .int .i64 t.super, .slice Ap t.parts.length cp, .slice Am t.methods.length cm, .slice Ao t.overs.length co] 42)).alloc (.cells #[.func (.func g) #[] cb] 103)).alloc (.cells #[.int .u8 0, .int .i64 0, .int .i64 0, .bool false, .string ⟨#[]⟩, .string ⟨#[]⟩, .int .i64 0, .slice none 0 0, .slice none 0 0, .slice none 0 0] 42)) := by
  refine ⟨(((Ext.refl w).alloc _).alloc _).alloc _, ?_, ?_, ?_⟩
  ·exact ((Below.heap_alloc _ _ _ (by simp; omega)).trans (Below.heap_alloc _ _ _ (by simp))).trans (heap_alloc_self w _)
  ·have h := heap_alloc_self (w.alloc (.cells #[.int .u8 t.kind, .int .i64 t.low, .int .i64 t.high, .bool t.branded, .string t.brand, .string t.opaq, .int .i64 t.super, .slice Ap t.parts.length cp, .slice Am t.methods.length cm, .slice Ao t.overs.length co] 42)) (.cells #[.func (.func g) #[] cb] 103)
   rw [World.size_alloc] at h
   exact (Below.heap_alloc _ _ _ (by simp)).trans h
  ·have h := heap_alloc_self ((w.alloc (.cells #[.int .u8 t.kind, .int .i64 t.low, .int .i64 t.high, .bool t.branded, .string t.brand, .string t.opaq, .int .i64 t.super, .slice Ap t.parts.length cp, .slice Am t.methods.length cm, .slice Ao t.overs.length co] 42)).alloc (.cells #[.func (.func g) #[] cb] 103)) (.cells #[.int .u8 0, .int .i64 0, .int .i64 0, .bool false, .string ⟨#[]⟩, .string ⟨#[]⟩, .int .i64 0, .slice none 0 0, .slice none 0 0, .slice none 0 0] 42)
   rw [World.size_alloc, World.size_alloc] at h
   exact h
 have Hst := Lib.hid hst
 clear hst
 unfold tyV
 cases hs0 : hasSuperB t.kind
 ·skip
  have Hs0 := Lib.hid hs0
  clear hs0
  have x0 := heap_cell Hst.out.box 0 _ rfl
  have l0 := Hst.out.box.lt
  go_enter Tryz.func72, Tryz.ntmps72
  go_wp2_with fail
  refine (Hkd.out _).mono ?_
  rintro e w1 ⟨rfl, hw1⟩
  rw [Hs0.out]
  subst hw1
  clear x0 l0
  generalize ((w.alloc (.cells #[.int .u8 t.kind, .int .i64 t.low, .int .i64 t.high, .bool t.branded, .string t.brand, .string t.opaq, .int .i64 t.super, .slice Ap t.parts.length cp, .slice Am t.methods.length cm, .slice Ao t.overs.length co] 42)).alloc (.cells #[.func (.func g) #[] cb] 103)).alloc (.cells #[.int .u8 0, .int .i64 0, .int .i64 0, .bool false, .string ⟨#[]⟩, .string ⟨#[]⟩, .int .i64 0, .slice none 0 0, .slice none 0 0, .slice none 0 0] 42) = W1 at Hst ⊢
  have b0 := Hst.out.box
  have cf := Hst.out.fcell
  have lf := cell_lt cf
  have x7 := heap_cell b0 7 _ rfl
  have lx := Hst.out.box.lt
  clear b0
  go_wp2_with fail
  clear cf lf lx x7
  refine (Hpa.out _ Hst.out.ext Hst.out.fcell).mono ?_
  rintro e w3 ⟨v3, rfl, hv3, hx3⟩
  obtain ⟨A3, c3, e3⟩ := hv3.any.len
  rw [List.length_map] at e3
  subst e3
  have Hv3 := Lib.hid (hv3.mono (G := fun b => w.heap.size + 3 ≤ b) (fun _ _ _ => rfl) (fun b hb _ => by have h5 := Hst.out.zbox.lt; unfold New at hb; omega))
  replace Hst := Lib.hid (Hst.out.later hx3)
  clear hv3 hx3
  have b0 := Hst.out.box
  have cf := Hst.out.fcell
  have lf := cell_lt cf
  have x7 := heap_cell b0 7 _ rfl
  have x8 := heap_cell b0 8 _ rfl
  have z7 := heap_frozen b0 7
  have lx := Hst.out.box.lt
  clear b0
  have Hst2 := Lib.hid (Hst.out.set7 (.slice A3 t.parts.length c3))
  have x82 := heap_cell Hst2.out.box 8 _ rfl
  have cf2 := Hst2.out.fcell
  have lf2 := cell_lt cf2
  go_wp2_with fail
  clear cf lf lx x7 x8 z7
  clear cf2 lf2 x82
  replace Hst := Hst2
  replace Hv3 := Lib.hid (Hv3.out.set (show w.heap.size < w.heap.size + 3 by omega) 7 (.slice A3 t.parts.length c3))
  generalize w3.setCell ⟨w.heap.size, 7, none⟩ (.slice A3 t.parts.length c3) = W3 at Hst Hv3 ⊢
  refine (Hme.out _ Hst.out.ext Hst.out.fcell).mono ?_
  rintro e w4 ⟨v4, rfl, hv4, hx4⟩
  obtain ⟨A4, c4, e4⟩ := hv4.any.len
  rw [List.length_map] at e4
  subst e4
  have Hv4 := Lib.hid (hv4.mono (G := fun b => w.heap.size + 3 ≤ b) (fun _ _ _ => rfl) (fun b hb _ => by have h5 := Hst.out.zbox.lt; unfold New at hb; omega))
  replace Hst := Lib.hid (Hst.out.later hx4)
  replace Hv3 := Lib.hid (Hv3.out.ext hx4)
  clear hv4 hx4
  have b0 := Hst.out.box
  have cf := Hst.out.fcell
  have lf := cell_lt cf
  have x8 := heap_cell b0 8 _ rfl
  have x9 := heap_cell b0 9 _ rfl
  have z8 := heap_frozen b0 8
  have lx := Hst.out.box.lt
  clear b0
  have Hst2 := Lib.hid (Hst.out.set8 (.slice A4 t.methods.length c4))
  have x92 := heap_cell Hst2.out.box 9 _ rfl
  go_wp2_with fail
  clear cf lf lx x8 x9 z8
  clear x92
  replace Hst := Hst2
  replace Hv3 := Lib.hid (Hv3.out.set (show w.heap.size < w.heap.size + 3 by omega) 8 (.slice A4 t.methods.length c4))
  replace Hv4 := Lib.hid (Hv4.out.set (show w.heap.size < w.heap.size + 3 by omega) 8 (.slice A4 t.methods.length c4))
  generalize w4.setCell ⟨w.heap.size, 8, none⟩ (.slice A4 t.methods.length c4) = W4 at Hst Hv3 Hv4 ⊢
  refine (Hov.out _ Hst.out.ext).mono ?_
  rintro e w5 ⟨v5, rfl, hv5, hx5⟩
  obtain ⟨A5, c5, rfl⟩ := hv5.any.len
  have Hv5 := Lib.hid (hv5.mono (G := fun b => w.heap.size + 3 ≤ b) (fun _ _ _ => rfl) (fun b hb _ => by have h5 := Hst.out.zbox.lt; unfold New at hb; omega))
  replace Hst := Lib.hid (Hst.out.later hx5)
  replace Hv3 := Lib.hid (Hv3.out.ext hx5)
  replace Hv4 := Lib.hid (Hv4.out.ext hx5)
  clear hv5 hx5
  have b0 := Hst.out.box
  have x9 := heap_cell b0 9 _ rfl
  have z9 := heap_frozen b0 9
  have lx := Hst.out.box.lt
  clear b0
  have Hst2 := Lib.hid (Hst.out.set9 (.slice A5 t.overs.length c5))
  have b2 := Hst2.out.box
  have q0 := heap_cell b2 0 _ rfl
  have q1 := heap_cell b2 1 _ rfl
  have q2 := heap_cell b2 2 _ rfl
  have q3 := heap_cell b2 3 _ rfl
  have q4 := heap_cell b2 4 _ rfl
  have q5 := heap_cell b2 5 _ rfl
  have q6 := heap_cell b2 6 _ rfl
  have q7 := heap_cell b2 7 _ rfl
  have q8 := heap_cell b2 8 _ rfl
  have q9 := heap_cell b2 9 _ rfl
  have y := Hst2.out.zbox
  have y0 := heap_cell y 0 _ rfl
  have y1 := heap_cell y 1 _ rfl
  have y2 := heap_cell y 2 _ rfl
  have y3 := heap_cell y 3 _ rfl
  have y4 := heap_cell y 4 _ rfl
  have y5 := heap_cell y 5 _ rfl
  have y6 := heap_cell y 6 _ rfl
  have y7 := heap_cell y 7 _ rfl
  have y8 := heap_cell y 8 _ rfl
  have y9 := heap_cell y 9 _ rfl
  have f0 := heap_frozen y 0
  have f1 := heap_frozen y 1
  have f2 := heap_frozen y 2
  have f3 := heap_frozen y 3
  have f4 := heap_frozen y 4
  have f5 := heap_frozen y 5
  have f6 := heap_frozen y 6
  have f7 := heap_frozen y 7
  have f8 := heap_frozen y 8
  have f9 := heap_frozen y 9
  have ly := Hst2.out.zbox.lt
  have lq := Hst2.out.box.lt
  clear b2 y
  go_wp2_with fail
  have e5 := row10_set Hst2.out.zbox (.int .u8 t.kind) (.int .i64 t.low) (.int .i64 t.high) (.bool t.branded) (.string t.brand) (.string t.opaq) (.int .i64 t.super) (.slice A3 t.parts.length c3) (.slice A4 t.methods.length c4) (.slice A5 t.overs.length c5)
  have d0 := heap_cell e5 0 _ rfl
  have d1 := heap_cell e5 1 _ rfl
  have d2 := heap_cell e5 2 _ rfl
  have d3 := heap_cell e5 3 _ rfl
  have d4 := heap_cell e5 4 _ rfl
  have d5 := heap_cell e5 5 _ rfl
  have d6 := heap_cell e5 6 _ rfl
  have d7 := heap_cell e5 7 _ rfl
  have d8 := heap_cell e5 8 _ rfl
  have d9 := heap_cell e5 9 _ rfl
  have hm : turnT f t = ⟨t.kind, t.low, t.high, t.branded, t.brand, t.opaq, t.super, t.parts.map (turnP f), t.methods.map (turnM f), t.overs⟩ := by unfold turnT; rw [Hs0.out]; rfl
  rw [hm]
  refine bodyPost_ret (v := .agg #[.int .u8 t.kind, .int .i64 t.low, .int .i64 t.high, .bool t.branded, .string t.brand, .string t.opaq, .int .i64 t.super, .slice A3 t.parts.length c3, .slice A4 t.methods.length c4, .slice A5 t.overs.length c5]) ?_ rfl ?_
  ·simp [results, Tryz.results72, go_sem, d0, d1, d2, d3, d4, d5, d6, d7, d8, d9]
  ·refine ⟨_, rfl, ⟨_, ⟨_, _, _, rfl, ?_, ?_, ?_⟩, rfl⟩, ?_⟩
   ·refine (Hv3.out.set (show w.heap.size < w.heap.size + 3 by omega) 9 (.slice A5 t.overs.length c5)).mono (fun b hb _ => ?_) (fun b hb _ => (by unfold New; omega))
    rw [Below.heap_setCell _ _ _ _ (by simp; omega), Below.heap_setCell _ _ _ _ (by simp; omega), Below.heap_setCell _ _ _ _ (by simp; omega), Below.heap_setCell _ _ _ _ (by simp; omega), Below.heap_setCell _ _ _ _ (by simp; omega), Below.heap_setCell _ _ _ _ (by simp; omega), Below.heap_setCell _ _ _ _ (by simp; omega), Below.heap_setCell _ _ _ _ (by simp; omega), Below.heap_setCell _ _ _ _ (by simp; omega), Below.heap_setCell _ _ _ _ (by simp; omega)]
   ·refine (Hv4.out.set (show w.heap.size < w.heap.size + 3 by omega) 9 (.slice A5 t.overs.length c5)).mono (fun b hb _ => ?_) (fun b hb _ => (by unfold New; omega))
    rw [Below.heap_setCell _ _ _ _ (by simp; omega), Below.heap_setCell _ _ _ _ (by simp; omega), Below.heap_setCell _ _ _ _ (by simp; omega), Below.heap_setCell _ _ _ _ (by simp; omega), Below.heap_setCell _ _ _ _ (by simp; omega), Below.heap_setCell _ _ _ _ (by simp; omega), Below.heap_setCell _ _ _ _ (by simp; omega), Below.heap_setCell _ _ _ _ (by simp; omega), Below.heap_setCell _ _ _ _ (by simp; omega), Below.heap_setCell _ _ _ _ (by simp; omega)]
   ·refine (Hv5.out.set (show w.heap.size < w.heap.size + 3 by omega) 9 (.slice A5 t.overs.length c5)).mono (fun b hb _ => ?_) (fun b hb _ => (by unfold New; omega))
    rw [Below.heap_setCell _ _ _ _ (by simp; omega), Below.heap_setCell _ _ _ _ (by simp; omega), Below.heap_setCell _ _ _ _ (by simp; omega), Below.heap_setCell _ _ _ _ (by simp; omega), Below.heap_setCell _ _ _ _ (by simp; omega), Below.heap_setCell _ _ _ _ (by simp; omega), Below.heap_setCell _ _ _ _ (by simp; omega), Below.heap_setCell _ _ _ _ (by simp; omega), Below.heap_setCell _ _ _ _ (by simp; omega), Below.heap_setCell _ _ _ _ (by simp; omega)]
   ·exact ((((((((((Hst2.out.ext).setCell (by simp; omega) _).setCell (by simp; omega) _).setCell (by simp; omega) _).setCell (by simp; omega) _).setCell (by simp; omega) _).setCell (by simp; omega) _).setCell (by simp; omega) _).setCell (by simp; omega) _).setCell (by simp; omega) _).setCell (by simp; omega) _
 ·skip
  have Hs0 := Lib.hid hs0
  clear hs0
  have x0 := heap_cell Hst.out.box 0 _ rfl
  have l0 := Hst.out.box.lt
  go_enter Tryz.func72, Tryz.ntmps72
  go_wp2_with fail
  refine (Hkd.out _).mono ?_
  rintro e w1 ⟨rfl, hw1⟩
  rw [Hs0.out]
  subst hw1
  clear x0 l0
  generalize ((w.alloc (.cells #[.int .u8 t.kind, .int .i64 t.low, .int .i64 t.high, .bool t.branded, .string t.brand, .string t.opaq, .int .i64 t.super, .slice Ap t.parts.length cp, .slice Am t.methods.length cm, .slice Ao t.overs.length co] 42)).alloc (.cells #[.func (.func g) #[] cb] 103)).alloc (.cells #[.int .u8 0, .int .i64 0, .int .i64 0, .bool false, .string ⟨#[]⟩, .string ⟨#[]⟩, .int .i64 0, .slice none 0 0, .slice none 0 0, .slice none 0 0] 42) = W1 at Hst ⊢
  have b0 := Hst.out.box
  have cf := Hst.out.fcell
  have lf := cell_lt cf
  have x6 := heap_cell b0 6 _ rfl
  have lx := Hst.out.box.lt
  clear b0
  go_wp2_with fail
  refine (Hsup.out _ Hst.out.ext Hs0.out).mono ?_
  rintro e w2 ⟨rfl, hx2⟩
  clear cf lf lx x6
  replace Hst := Lib.hid (Hst.out.later hx2)
  clear hx2
  have b0 := Hst.out.box
  have cf := Hst.out.fcell
  have lf := cell_lt cf
  have x6 := heap_cell b0 6 _ rfl
  have x7 := heap_cell b0 7 _ rfl
  have z6 := heap_frozen b0 6
  have lx := Hst.out.box.lt
  clear b0
  have Hst2 := Lib.hid (Hst.out.set6 (f t.super))
  have cf2 := Hst2.out.fcell
  have x72 := heap_cell Hst2.out.box 7 _ rfl
  have lf2 := cell_lt cf2
  go_wp2_with fail
  clear cf lf lx x6 x7 z6
  clear cf2 x72 lf2
  replace Hst := Hst2
  generalize w2.setCell ⟨w.heap.size, 6, none⟩ (.int .i64 (f t.super)) = W2 at Hst ⊢
  refine (Hpa.out _ Hst.out.ext Hst.out.fcell).mono ?_
  rintro e w3 ⟨v3, rfl, hv3, hx3⟩
  obtain ⟨A3, c3, e3⟩ := hv3.any.len
  rw [List.length_map] at e3
  subst e3
  have Hv3 := Lib.hid (hv3.mono (G := fun b => w.heap.size + 3 ≤ b) (fun _ _ _ => rfl) (fun b hb _ => by have h5 := Hst.out.zbox.lt; unfold New at hb; omega))
  replace Hst := Lib.hid (Hst.out.later hx3)
  clear hv3 hx3
  have b0 := Hst.out.box
  have cf := Hst.out.fcell
  have lf := cell_lt cf
  have x7 := heap_cell b0 7 _ rfl
  have x8 := heap_cell b0 8 _ rfl
  have z7 := heap_frozen b0 7
  have lx := Hst.out.box.lt
  clear b0
  have Hst2 := Lib.hid (Hst.out.set7 (.slice A3 t.parts.length c3))
  have x82 := heap_cell Hst2.out.box 8 _ rfl
  have cf2 := Hst2.out.fcell
  have lf2 := cell_lt cf2
  go_wp2_with fail
  clear cf lf lx x7 x8 z7
  clear cf2 lf2 x82
  replace Hst := Hst2
  replace Hv3 := Lib.hid (Hv3.out.set (show w.heap.size < w.heap.size + 3 by omega) 7 (.slice A3 t.parts.length c3))
  generalize w3.setCell ⟨w.heap.size, 7, none⟩ (.slice A3 t.parts.length c3) = W3 at Hst Hv3 ⊢
  refine (Hme.out _ Hst.out.ext Hst.out.fcell).mono ?_
  rintro e w4 ⟨v4, rfl, hv4, hx4⟩
  obtain ⟨A4, c4, e4⟩ := hv4.any.len
  rw [List.length_map] at e4
  subst e4
  have Hv4 := Lib.hid (hv4.mono (G := fun b => w.heap.size + 3 ≤ b) (fun _ _ _ => rfl) (fun b hb _ => by have h5 := Hst.out.zbox.lt; unfold New at hb; omega))
  replace Hst := Lib.hid (Hst.out.later hx4)
  replace Hv3 := Lib.hid (Hv3.out.ext hx4)
  clear hv4 hx4
  have b0 := Hst.out.box
  have cf := Hst.out.fcell
  have lf := cell_lt cf
  have x8 := heap_cell b0 8 _ rfl
  have x9 := heap_cell b0 9 _ rfl
  have z8 := heap_frozen b0 8
  have lx := Hst.out.box.lt
  clear b0
  have Hst2 := Lib.hid (Hst.out.set8 (.slice A4 t.methods.length c4))
  have x92 := heap_cell Hst2.out.box 9 _ rfl
  go_wp2_with fail
  clear cf lf lx x8 x9 z8
  clear x92
  replace Hst := Hst2
  replace Hv3 := Lib.hid (Hv3.out.set (show w.heap.size < w.heap.size + 3 by omega) 8 (.slice A4 t.methods.length c4))
  replace Hv4 := Lib.hid (Hv4.out.set (show w.heap.size < w.heap.size + 3 by omega) 8 (.slice A4 t.methods.length c4))
  generalize w4.setCell ⟨w.heap.size, 8, none⟩ (.slice A4 t.methods.length c4) = W4 at Hst Hv3 Hv4 ⊢
  refine (Hov.out _ Hst.out.ext).mono ?_
  rintro e w5 ⟨v5, rfl, hv5, hx5⟩
  obtain ⟨A5, c5, rfl⟩ := hv5.any.len
  have Hv5 := Lib.hid (hv5.mono (G := fun b => w.heap.size + 3 ≤ b) (fun _ _ _ => rfl) (fun b hb _ => by have h5 := Hst.out.zbox.lt; unfold New at hb; omega))
  replace Hst := Lib.hid (Hst.out.later hx5)
  replace Hv3 := Lib.hid (Hv3.out.ext hx5)
  replace Hv4 := Lib.hid (Hv4.out.ext hx5)
  clear hv5 hx5
  have b0 := Hst.out.box
  have x9 := heap_cell b0 9 _ rfl
  have z9 := heap_frozen b0 9
  have lx := Hst.out.box.lt
  clear b0
  have Hst2 := Lib.hid (Hst.out.set9 (.slice A5 t.overs.length c5))
  have b2 := Hst2.out.box
  have q0 := heap_cell b2 0 _ rfl
  have q1 := heap_cell b2 1 _ rfl
  have q2 := heap_cell b2 2 _ rfl
  have q3 := heap_cell b2 3 _ rfl
  have q4 := heap_cell b2 4 _ rfl
  have q5 := heap_cell b2 5 _ rfl
  have q6 := heap_cell b2 6 _ rfl
  have q7 := heap_cell b2 7 _ rfl
  have q8 := heap_cell b2 8 _ rfl
  have q9 := heap_cell b2 9 _ rfl
  have y := Hst2.out.zbox
  have y0 := heap_cell y 0 _ rfl
  have y1 := heap_cell y 1 _ rfl
  have y2 := heap_cell y 2 _ rfl
  have y3 := heap_cell y 3 _ rfl
  have y4 := heap_cell y 4 _ rfl
  have y5 := heap_cell y 5 _ rfl
  have y6 := heap_cell y 6 _ rfl
  have y7 := heap_cell y 7 _ rfl
  have y8 := heap_cell y 8 _ rfl
  have y9 := heap_cell y 9 _ rfl
  have f0 := heap_frozen y 0
  have f1 := heap_frozen y 1
  have f2 := heap_frozen y 2
  have f3 := heap_frozen y 3
  have f4 := heap_frozen y 4
  have f5 := heap_frozen y 5
  have f6 := heap_frozen y 6
  have f7 := heap_frozen y 7
  have f8 := heap_frozen y 8
  have f9 := heap_frozen y 9
  have ly := Hst2.out.zbox.lt
  have lq := Hst2.out.box.lt
  clear b2 y
  go_wp2_with fail
  have e5 := row10_set Hst2.out.zbox (.int .u8 t.kind) (.int .i64 t.low) (.int .i64 t.high) (.bool t.branded) (.string t.brand) (.string t.opaq) (.int .i64 (f t.super)) (.slice A3 t.parts.length c3) (.slice A4 t.methods.length c4) (.slice A5 t.overs.length c5)
  have d0 := heap_cell e5 0 _ rfl
  have d1 := heap_cell e5 1 _ rfl
  have d2 := heap_cell e5 2 _ rfl
  have d3 := heap_cell e5 3 _ rfl
  have d4 := heap_cell e5 4 _ rfl
  have d5 := heap_cell e5 5 _ rfl
  have d6 := heap_cell e5 6 _ rfl
  have d7 := heap_cell e5 7 _ rfl
  have d8 := heap_cell e5 8 _ rfl
  have d9 := heap_cell e5 9 _ rfl
  have hm : turnT f t = ⟨t.kind, t.low, t.high, t.branded, t.brand, t.opaq, f t.super, t.parts.map (turnP f), t.methods.map (turnM f), t.overs⟩ := by unfold turnT; rw [Hs0.out]; rfl
  rw [hm]
  refine bodyPost_ret (v := .agg #[.int .u8 t.kind, .int .i64 t.low, .int .i64 t.high, .bool t.branded, .string t.brand, .string t.opaq, .int .i64 (f t.super), .slice A3 t.parts.length c3, .slice A4 t.methods.length c4, .slice A5 t.overs.length c5]) ?_ rfl ?_
  ·simp [results, Tryz.results72, go_sem, d0, d1, d2, d3, d4, d5, d6, d7, d8, d9]
  ·refine ⟨_, rfl, ⟨_, ⟨_, _, _, rfl, ?_, ?_, ?_⟩, rfl⟩, ?_⟩
   ·refine (Hv3.out.set (show w.heap.size < w.heap.size + 3 by omega) 9 (.slice A5 t.overs.length c5)).mono (fun b hb _ => ?_) (fun b hb _ => (by unfold New; omega))
    rw [Below.heap_setCell _ _ _ _ (by simp; omega), Below.heap_setCell _ _ _ _ (by simp; omega), Below.heap_setCell _ _ _ _ (by simp; omega), Below.heap_setCell _ _ _ _ (by simp; omega), Below.heap_setCell _ _ _ _ (by simp; omega), Below.heap_setCell _ _ _ _ (by simp; omega), Below.heap_setCell _ _ _ _ (by simp; omega), Below.heap_setCell _ _ _ _ (by simp; omega), Below.heap_setCell _ _ _ _ (by simp; omega), Below.heap_setCell _ _ _ _ (by simp; omega)]
   ·refine (Hv4.out.set (show w.heap.size < w.heap.size + 3 by omega) 9 (.slice A5 t.overs.length c5)).mono (fun b hb _ => ?_) (fun b hb _ => (by unfold New; omega))
    rw [Below.heap_setCell _ _ _ _ (by simp; omega), Below.heap_setCell _ _ _ _ (by simp; omega), Below.heap_setCell _ _ _ _ (by simp; omega), Below.heap_setCell _ _ _ _ (by simp; omega), Below.heap_setCell _ _ _ _ (by simp; omega), Below.heap_setCell _ _ _ _ (by simp; omega), Below.heap_setCell _ _ _ _ (by simp; omega), Below.heap_setCell _ _ _ _ (by simp; omega), Below.heap_setCell _ _ _ _ (by simp; omega), Below.heap_setCell _ _ _ _ (by simp; omega)]
   ·refine (Hv5.out.set (show w.heap.size < w.heap.size + 3 by omega) 9 (.slice A5 t.overs.length c5)).mono (fun b hb _ => ?_) (fun b hb _ => (by unfold New; omega))
    rw [Below.heap_setCell _ _ _ _ (by simp; omega), Below.heap_setCell _ _ _ _ (by simp; omega), Below.heap_setCell _ _ _ _ (by simp; omega), Below.heap_setCell _ _ _ _ (by simp; omega), Below.heap_setCell _ _ _ _ (by simp; omega), Below.heap_setCell _ _ _ _ (by simp; omega), Below.heap_setCell _ _ _ _ (by simp; omega), Below.heap_setCell _ _ _ _ (by simp; omega), Below.heap_setCell _ _ _ _ (by simp; omega), Below.heap_setCell _ _ _ _ (by simp; omega)]
   ·exact ((((((((((Hst2.out.ext).setCell (by simp; omega) _).setCell (by simp; omega) _).setCell (by simp; omega) _).setCell (by simp; omega) _).setCell (by simp; omega) _).setCell (by simp; omega) _).setCell (by simp; omega) _).setCell (by simp; omega) _).setCell (by simp; omega) _).setCell (by simp; omega) _
end Go.Proofs.YtldnjnnhfeobdaaGreatDoor
