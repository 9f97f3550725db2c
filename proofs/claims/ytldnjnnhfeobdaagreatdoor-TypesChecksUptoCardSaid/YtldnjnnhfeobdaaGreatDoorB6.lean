/- Parts of the proof, joined: Contract: classes. Conditions: a well-formed graph, lengths below 2^20; Contracts: Equal, Word, Classes. Conditions: lengths below 2^20; Contract: Digest. Conditions: lengths below 2^20; Contracts: a strings.Builder at the head of a writer: WriteString, String. Conditions: the text's length below 2^47; Contract: the text of a method. Conditions: lengths below 2^47. -/
import Derived.Deep.RegionHeld3
import Derived.Laws.BytesArg
import Derived.RangeFuncBox
import Derived.RegionTactic
import Derived.ChangeAlike
import Derived.Deep.DeepCutAuto
import Derived.Test.YtldnjnnhfeobdaaGreatDoorB5
import Derived.Test.YtldnjnnhfeobdaaGreatDoorShelfP
namespace Go.Proofs.YtldnjnnhfeobdaaGreatDoor
set_option linter.all false
set_option linter.unusedSimpArgs false
set_option linter.unusedVariables false
open Go.RowKit Go.Shelf

/-- none before j stands for itself and has p -/
def NoneB (c : List Nat) (p : Nat → Bool) (j : Nat) : Prop := ∀ k, k < j → ¬ (c.getD k 0 = k ∧ p k = true)
theorem NoneB.next {c : List Nat} {p : Nat → Bool} {j : Nat} (h : NoneB c p j) (hj : ¬ (c.getD j 0 = j ∧ p j = true)) : NoneB c p (j + 1) := fun k hk => by
  by_cases e : k = j
  · subst e; exact hj
  · exact h k (by omega)

/-- a new row of zeros -/
def zeros (n : Nat) : Obj := .cells ((List.replicate n 0).map fun (n : Nat) => Value.int .i64 (n : Int)).toArray 3
theorem make_zeros (w : World) (n : Nat) (hn : n ≤ 1048576) : (Instr.makeSlice 24 (.int .i64 (n : Int)) (.int .i64 (n : Int))).run Tryz.prog w = .ok (.slice (some ⟨w.heap.size, 0, none⟩) n n) (w.alloc (zeros n)) := by
  obtain ⟨i0, hi, hz0, hz1, hz2⟩ := info_parts infoI
  have h := run_makeSlice (P := Tryz.prog) (w := w) 24 3 i0 (.int .i64 0) Tryz.underlying24 hi hz0 .i64 .i64 n n (by omega) (by omega) (by rw [hz1, Int.toNat_natCast]; omega) (by rw [hz2]; omega) (by omega)
  rw [h, Int.toNat_natCast, hz1]
  have e : madeCells (Value.int .i64 0).cells (n * 1) = ((List.replicate n 0).map fun (n : Nat) => Value.int .i64 (n : Int)).toArray := by
    apply Array.ext
    · simp [madeCells]
    · intro i h1 h2
      simp [madeCells, Value.cells, Nat.mod_one]
  rw [e]
  rfl
theorem eqF_int : ∀ xs ys : List Int, eqF (fun x y => x == y) xs ys = decide (xs = ys)
  | [], [] => rfl
  | [], y :: ys => by simp [eqF]
  | x :: xs, [] => by simp [eqF]
  | x :: xs, y :: ys => by
    rw [eqF, eqF_int xs ys, Bool.eq_iff_iff]; simp
theorem look_map (g : Graph) (cs : List Nat) (i : Nat) : (refsL (getT g i)).map (lookN cs) = ((refsN g i).map (cs.getD · 0)).map fun (n : Nat) => (n : Int) := by
  unfold refsN
  rw [List.map_map, List.map_map]
  rfl
theorem look_eq (g : Graph) (cs : List Nat) (i j : Nat) : decide ((refsL (getT g i)).map (lookN cs) = (refsL (getT g j)).map (lookN cs)) = decide ((refsN g i).map (cs.getD · 0) = (refsN g j).map (cs.getD · 0)) := by
  rw [look_map, look_map, Bool.eq_iff_iff, decide_eq_true_eq, decide_eq_true_eq]
  refine ⟨fun h => ?_, fun h => by rw [h]⟩
  have := congrArg (List.map Int.toNat) h
  rw [List.map_map, List.map_map] at this
  simpa [Function.comp_def] using this
/-- has one of the first k turned? -/
def chgB (nx cs : List Nat) (k : Nat) : Bool := (List.range k).any fun i => nx.getD i 0 != cs.getD i 0
theorem chgB_succ (nx cs : List Nat) (k : Nat) : chgB nx cs (k + 1) = (chgB nx cs k || nx.getD k 0 != cs.getD k 0) := by
  simp [chgB, List.range_succ]
theorem chgB_same {nx cs : List Nat} {n : Nat} (h1 : nx.length = n) (h2 : cs.length = n) (h : chgB nx cs n = false) : nx = cs := by
  refine List.ext_getElem (by omega) fun i h3 h4 => ?_
  simp only [chgB, List.any_eq_false, List.mem_range] at h
  have := h i (by omega)
  simpa [List.getD_eq_getElem?_getD, List.getElem?_eq_getElem h3, List.getElem?_eq_getElem h4] using this
theorem chgB_diff {nx cs : List Nat} {n : Nat} (h : chgB nx cs n = true) : nx ≠ cs := by
  rintro rfl
  simp [chgB] at h
/-- what holds where a round of the refinement begins -/
def AgainB (g : Graph) (m : Nat) (b : Bool) (cs : List Nat) : Prop :=
  Rep g.length cs ∧ match b with
    | true => rankL g.length cs < m ∧ iterL (refsN g) g.length (m - 1) cs = classesG g
    | false => cs = classesG g
theorem AgainB.next {g : Graph} {m : Nat} {cs : List Nat} (h : AgainB g m true cs) : AgainB g (m - 1) (chgB (stepL (refsN g) g.length cs) cs g.length) (stepL (refsN g) g.length cs) := by
  obtain ⟨hr, h1, h2⟩ := h
  have hl : (stepL (refsN g) g.length cs).length = g.length := buildL_length _ _
  refine ⟨buildL_rep (stepQ_eqOn _ _ _), ?_⟩
  cases hc : chgB (stepL (refsN g) g.length cs) cs g.length with
  | true =>
    have hne := chgB_diff hc
    have h3 := step_rank hr hne
    refine ⟨by omega, ?_⟩
    rw [show m - 1 = (m - 1 - 1) + 1 by omega, iterL_go hne] at h2
    exact h2
  | false =>
    have e := chgB_same hl hr.len hc
    show _ = _
    rw [e, ← h2, iterL_stop e]
theorem pickL_eq {c : List Nat} {p : Nat → Bool} {i q : Nat} (hq : q ≤ i) (hn : NoneB c p q) (h : q = i ∨ c.getD q 0 = q ∧ p q = true) : pickL c p i = q := by
  by_cases e : q = i
  · subst e; exact pickL_none hn
  · rcases h with h | h
    · exact absurd h e
    · exact pickL_find (by omega) h.1 h.2 hn
theorem buildL_snoc (q : Nat → Nat → Bool) (k : Nat) : buildL q (k + 1) = buildL q k ++ [pickL (buildL q k) (q k) k] := rfl

set_option maxRecDepth 100000 in
set_option maxHeartbeats 16000000 in
theorem classes_any (w : World) (gv : Value) (g : Graph) (hg : Sl tyE w gv g) (hT : Tidy g) (hW : WF g) :
    Calls Tryz.prog 60 #[.agg #[gv]] w (RetP w (ResSl intE w ((classesG g).map fun (n : Nat) => (n : Int)))) := by
  have hn := hT.len
  have hag := fun (w' : World) (hx : Ext w w') (i j : Nat) (hi : i < g.length) (hj : j < g.length) => agree_any w' gv g i j (hg.mono hx) hT hi hj
  have hls := fun (w' : World) (hx : Ext w w') (i : Nat) (hi : i < g.length) => list_any w' gv g i g.length (hg.mono hx) hi hn (hW.fine (getT_mem hi))
  have hrl := fun (i : Nat) (hi : i < g.length) => (hW.fine (getT_mem hi)).refs_le
  have hrr := fun (i : Nat) (hi : i < g.length) => (hW.fine (getT_mem hi)).refs
  obtain ⟨A, cap, rfl⟩ := hg.len
  have hmk := fun w' => make_zeros w' g.length hn
  have Hag := Lib.hid hag
  have Hls := Lib.hid hls
  have Hrl := Lib.hid hrl
  have Hrr := Lib.hid hrr
  have HW := Lib.hid hW
  have hst : CSt w w.heap.size (w.heap.size + 2) (w.heap.size + 1) A cap g.length (buildL (agN g) 0 ++ List.replicate (g.length - 0) 0) (((w.alloc (.cells #[.slice A g.length cap] 77)).alloc (zeros g.length)).alloc (.cells #[.slice (some ⟨w.heap.size + 1, 0, none⟩) g.length g.length] 24)) := by
    have e1 := heap_alloc_self w (.cells #[.slice A g.length cap] 77)
    have e2 := heap_alloc_self (w.alloc (.cells #[.slice A g.length cap] 77)) (zeros g.length)
    have e3 := heap_alloc_self ((w.alloc (.cells #[.slice A g.length cap] 77)).alloc (zeros g.length)) (.cells #[.slice (some ⟨w.heap.size + 1, 0, none⟩) g.length g.length] 24)
    simp only [World.size_alloc] at e2 e3
    refine ⟨(((Ext.refl w).alloc _).alloc _).alloc _, ?_, ?_, ?_, by simp [buildL], by omega, by omega, by omega, by omega, by omega⟩
    · exact Boxed.ext (Boxed.ext e1 ((Ext.refl _).alloc _)) ((Ext.refl _).alloc _)
    · exact e3
    · exact IntRow.ext e2 ((Ext.refl _).alloc _)
  have Hst := Lib.hid hst
  clear hag hls hg hT hW hrl hrr hst
  go_enter Tryz.func60, Tryz.ntmps60
  go_wp2_with fail
  generalize hw0 : ((w.alloc (.cells #[.slice A g.length cap] 77)).alloc (zeros g.length)).alloc (.cells #[.slice (some ⟨w.heap.size + 1, 0, none⟩) g.length g.length] 24) = w0 at Hst ⊢
  clear hw0
  go_loopw [17] (fun i wr => ∃ k : Nat, k ≤ g.length ∧ i = .int .i64 k ∧ Hid (CSt w w.heap.size (w.heap.size + 2) (w.heap.size + 1) A cap g.length (buildL (agN g) k ++ List.replicate (g.length - k) 0) wr)) (fun i _ => g.length - (intOf i).toNat)
  case atStart => exact ⟨0, by omega, by simp, Hst⟩
  case round =>
    clear Hst
    obtain ⟨k, hk, rfl, Hst⟩ := hrel
    by_cases hlt : k < g.length
    · go_wp2_with fail
      obtain ⟨wo, rfl⟩ : ∃ wo : World, wo = wr := ⟨_, rfl⟩
      go_loopw [22] (fun j wr => ∃ q : Nat, q ≤ k ∧ j = .int .i64 q ∧ Hid (NoneB (buildL (agN g) k) (agN g k) q) ∧ Hid (CSt w w.heap.size (w.heap.size + 2) (w.heap.size + 1) A cap g.length (buildL (agN g) k ++ List.replicate (g.length - k) 0) wr)) (fun j _ => k + 1 - (intOf j).toNat)
      case atStart => exact ⟨0, by omega, by simp, fun _ h => by omega, Hst⟩
      case round =>
        clear Hst
        obtain ⟨q, hq, rfl, Hno, Hst⟩ := hrel
        have hln := Hst.out.len
        have cx := Hst.out.cbox.cell
        have cg := Hst.out.gbox.cell
        have cq := Hst.out.row.cell q (by omega)
        have l0 := cell_lt cx
        have l1 := cell_lt cg
        have l2 := cell_lt cq
        have hq1 : (q : Int) < (k : Int) + 1 := by omega
        have hq2 : (0 : Int) ≤ (q : Int) := by omega
        have hq3 : (q : Int) < (g.length : Int) := by omega
        have hk2 : (0 : Int) ≤ (k : Int) := by omega
        have hk3 : (k : Int) < (g.length : Int) := by omega
        have Hset := Lib.hid (set_next (buildL (agN g) k) k g.length (pickL (buildL (agN g) k) (agN g k) k) (buildL_length _ _) hlt)
        by_cases hqk : q < k
        · rw [getD_pre _ _ _ (by rw [buildL_length]; exact hqk)] at cq
          have hqk' : ((q : Int) == (k : Int)) = false := by rw [beq_eq_false_iff_ne]; omega
          by_cases hc : (buildL (agN g) k).getD q 0 = q
          · rw [hc] at cq
            have Hc := Lib.hid hc
            cases ha : agN g k q
            · have Hno2 := Lib.hid (Hno.out.next (fun h => by simp [ha] at h))
              have Ha := Lib.hid ha
              clear hc ha hln
              go_wp2_with fail
              refine (Hag.out _ Hst.out.ext k q hlt (by omega)).mono ?_
              rintro e w1 ⟨rfl, hx1⟩
              rw [Ha.out]
              have Hst1 := Lib.hid (Hst.out.later hx1)
              clear hx1 cx cg cq
              go_wp2_with fail
              go_roundw
              case rel => exact ⟨q + 1, by omega, by go_num, Hno2, Hst1⟩
              case measure => simp [intOf]; omega
            · have hp := pickL_eq hq Hno.out (.inr ⟨hc, ha⟩)
              have Ha := Lib.hid ha
              have Hp := Lib.hid hp
              clear hc ha hln hp
              go_wp2_with fail
              refine (Hag.out _ Hst.out.ext k q hlt (by omega)).mono ?_
              rintro e w1 ⟨rfl, hx1⟩
              rw [Ha.out]
              have Hst1 := Lib.hid (Hst.out.later hx1)
              clear hx1 cx cg cq l0 l1 l2
              have cx := Hst1.out.cbox.cell
              have ck := Hst1.out.row.cell k (by rw [Hst1.out.len]; exact hlt)
              have fk := Hst1.out.row.frozen k
              have l0 := cell_lt cx
              have l2 := cell_lt ck
              go_wp2_with fail
              go_roundw
              case rel => exact ⟨k + 1, by omega, by go_num, Lib.hid (by have h := Hst1.out.set k q; rw [buildL_snoc]; rw [← Hset.out, Hp.out]; exact h)⟩
              case measure => simp [intOf]; omega
          · have hc' : ((((buildL (agN g) k).getD q 0 : Nat) : Int) == (q : Int)) = false := by rw [beq_eq_false_iff_ne]; omega
            have Hno2 := Lib.hid (Hno.out.next (fun h => hc h.1))
            generalize (buildL (agN g) k).getD q 0 = c at cq hc'
            clear hc hln
            go_wp2_with fail
            go_roundw
            case rel => exact ⟨q + 1, by omega, by go_num, Hno2, Hst⟩
            case measure => simp [intOf]; omega
        · obtain rfl : q = k := by omega
          rw [getD_zero _ _ _ (by rw [buildL_length]; omega)] at cq
          have hp := pickL_eq hq Hno.out (.inl rfl)
          have Hp := Lib.hid hp
          have ck := cq
          have fk := Hst.out.row.frozen q
          clear hln hp hqk
          by_cases h0 : q = 0
          · subst h0
            have ha : agN g 0 0 = true := byF_agree.refl _
            have Ha := Lib.hid ha
            clear ha
            go_wp2_with fail
            refine (Hag.out _ Hst.out.ext 0 0 hlt hlt).mono ?_
            rintro e w1 ⟨rfl, hx1⟩
            rw [Ha.out]
            have Hst1 := Lib.hid (Hst.out.later hx1)
            clear hx1 cx cg cq ck fk l0 l1 l2
            have cx := Hst1.out.cbox.cell
            have ck := Hst1.out.row.cell 0 (by rw [Hst1.out.len]; exact hlt)
            have fk := Hst1.out.row.frozen 0
            have l0 := cell_lt cx
            have l2 := cell_lt ck
            go_wp2_with fail
            go_roundw
            case rel => exact ⟨1, by omega, by go_num, Lib.hid (by have h := Hst1.out.set 0 0; rw [buildL_snoc]; rw [← Hset.out, Hp.out]; exact h)⟩
            case measure => simp [intOf]; omega
          · have h0' : ((0 : Int) == (q : Int)) = false := by rw [beq_eq_false_iff_ne]; omega
            go_wp2_with fail
            go_roundw
            case rel => exact ⟨q + 1, by omega, by go_num, Lib.hid (by have h := Hst.out.set q q; rw [buildL_snoc]; rw [← Hset.out, Hp.out]; exact h)⟩
            case measure => simp [intOf]; omega
    · obtain rfl : k = g.length := by omega
      have Hst1 := Lib.hid (by have h := Hst.out; rwa [Nat.sub_self, List.replicate_zero, List.append_nil] at h : CSt w w.heap.size (w.heap.size + 2) (w.heap.size + 1) A cap g.length (buildL (agN g) g.length) wr)
      clear Hst hlt
      go_wp2_with fail
      go_loopg [6] (g.length + 1) (fun m ag wr => ∃ (b : Bool) (Bc : Nat) (cs : List Nat), ag = .bool b ∧ Hid (CSt w w.heap.size (w.heap.size + 2) Bc A cap g.length cs wr) ∧ Hid (AgainB g m b cs))
      case atStart =>
        refine ⟨true, _, _, rfl, Hst1, ?_⟩
        exact ⟨buildL_rep (agN_eqOn g _), by have := rankL_le g.length (buildL (agN g) g.length); omega, rfl⟩
      case round =>
        clear Hst1
        obtain ⟨b, Bc, cs, rfl, Hst, Hgn⟩ := hrel
        cases b
        · have cx := Hst.out.cbox.cell
          have hcs : cs = classesG g := Hgn.out.2
          have Hcs := Lib.hid hcs
          clear hcs
          go_wp2_with fail
          go_ret
          refine ⟨_, rfl, ?_, Hst.out.ext⟩
          have h := IntRow.sl Hst.out.row g.length (by rw [Hst.out.len]; exact Nat.le_refl _)
          rw [Hst.out.len] at h
          rw [← Hcs.out]
          obtain ⟨A1, c1, e1, h1⟩ := h
          refine ⟨A1, c1, e1, fun i x hi => ?_⟩
          obtain ⟨b1, o1, cs1, e2, ⟨_, hle⟩, e3, e4⟩ := h1 i x hi
          refine ⟨b1, o1, cs1, e2, ⟨?_, hle⟩, e3, e4⟩
          rw [e2] at e1
          injection e1 with e5 e6 e7
          injection e5 with e8
          injection e8 with e9
          subst e9
          exact Hst.out.nb.1
        · have cx := Hst.out.cbox.cell
          have l0 := cell_lt cx
          obtain ⟨wo, rfl⟩ : ∃ wo : World, wo = wr := ⟨_, rfl⟩
          have Hnb := Lib.hid Hst.out.nb
          have Hs0 := Lib.hid (Hst.out.later ((Ext.refl wo).alloc (zeros g.length)))
          have Hz0 := Lib.hid (show IntRow (wo.alloc (zeros g.length)) wo.heap.size (buildL (stepQ (refsN g) cs) 0 ++ List.replicate (g.length - 0) 0) from heap_alloc_self wo (zeros g.length))
          have Hbn := Lib.hid (show w.heap.size ≤ wo.heap.size ∧ w.heap.size ≠ wo.heap.size ∧ w.heap.size + 2 ≠ wo.heap.size ∧ Bc ≠ wo.heap.size from ⟨Hst.out.ext.size, by have := Hst.out.gbox.lt; omega, by have := Hst.out.cbox.lt; omega, by have := Hst.out.row.lt; omega⟩)
          clear Hst
          go_wp2_with fail
          obtain ⟨Bn, hBn⟩ : ∃ Bn, Bn = wo.heap.size := ⟨_, rfl⟩
          rw [← hBn] at Hz0 Hbn ⊢
          clear hBn cx l0
          generalize wo.alloc (zeros g.length) = wz at Hs0 Hz0 ⊢
          go_loopw [6, 54] (fun ag i wr => ∃ k : Nat, k ≤ g.length ∧ i = .int .i64 k ∧ ag = .bool (chgB (stepL (refsN g) g.length cs) cs k) ∧ Hid (CSt w w.heap.size (w.heap.size + 2) Bc A cap g.length cs wr) ∧ Hid (IntRow wr Bn (buildL (stepQ (refsN g) cs) k ++ List.replicate (g.length - k) 0))) (fun _ i _ => g.length - (intOf i).toNat)
          case atStart => exact ⟨0, by omega, by simp, rfl, Hs0, Hz0⟩
          case round =>
            clear Hs0 Hz0
            obtain ⟨k, hk, rfl, rfl, Hst, Hnx⟩ := hrel
            by_cases hlt : k < g.length
            · have cg := Hst.out.gbox.cell
              have l1 := cell_lt cg
              have hk2 : (0 : Int) ≤ (k : Int) := by omega
              have hk3 : (k : Int) < (g.length : Int) := by omega
              obtain ⟨wo2, rfl⟩ : ∃ wo : World, wo = wr := ⟨_, rfl⟩
              generalize hch : chgB (stepL (refsN g) g.length cs) cs k = chk
              have Hch := Lib.hid hch
              clear hch
              go_wp2_with fail
              refine (Hls.out _ Hst.out.ext k hlt).mono ?_
              rintro e w1 ⟨v1, rfl, hv1, hx1⟩
              have Hst1 := Lib.hid (Hst.out.later hx1)
              have Hnx1 := Lib.hid (Hnx.out.ext hx1)
              have Hv1 := Lib.hid hv1.any
              obtain ⟨A1, c1, e1⟩ := hv1.any.len
              subst e1
              clear hv1 hx1 cg l1 Hst Hnx
              have Hmp := Lib.hid (turned_int_int 109 #[.pointer (some ⟨w.heap.size + 2, 0, none⟩)] w1 _ (refsL (getT g k)) (lookN cs) Hv1.out (by have := Hrl.out k hlt; omega) (map109 w1 _ Bc g.length cs _ Hst1.out.cbox Hst1.out.row Hst1.out.len hn (Hrr.out k hlt)))
              go_wp2_with fail
              refine Hmp.out.mono ?_
              rintro e w2 ⟨v2, rfl, hv2, hx2⟩
              have Hst2 := Lib.hid (Hst1.out.later hx2)
              have Hnx2 := Lib.hid (Hnx1.out.ext hx2)
              have Hv2 := Lib.hid hv2.any
              obtain ⟨A2, c2, e2⟩ := hv2.any.len
              rw [List.length_map] at e2
              subst e2
              clear hv2 hx2 Hmp Hv1 Hst1 Hnx1
              go_wp2_with fail
              have Hlk := Lib.hid (Hrl.out k hlt)
              generalize (refsL (getT g k)).length = lk at *
              clear hk2 hk3
              go_loopw [64] (fun j wq => ∃ q : Nat, q ≤ k ∧ j = .int .i64 q ∧ Hid (NoneB (buildL (stepQ (refsN g) cs) k) (stepQ (refsN g) cs k) q) ∧ Hid (CSt w w.heap.size (w.heap.size + 2) Bc A cap g.length cs wq) ∧ Hid (IntRow wq Bn (buildL (stepQ (refsN g) cs) k ++ List.replicate (g.length - k) 0)) ∧ Hid (Sl intE wq (.slice A2 lk c2) ((refsL (getT g k)).map (lookN cs)))) (fun j _ => k + 1 - (intOf j).toNat)
              case atStart => exact ⟨0, by omega, by simp, fun _ h => by omega, Hst2, Hnx2, Hv2⟩
              case round =>
                clear Hst2 Hnx2 Hv2
                obtain ⟨q, hq, rfl, Hno, Hst, Hnx, Hv2⟩ := hrel
                obtain ⟨wq, rfl⟩ : ∃ wq : World, wq = wr := ⟨_, rfl⟩
                have hln := Hst.out.len
                have hnl : (buildL (stepQ (refsN g) cs) k ++ List.replicate (g.length - k) 0).length = g.length := by rw [List.length_append, buildL_length, List.length_replicate]; omega
                have cx := Hst.out.cbox.cell
                have cg := Hst.out.gbox.cell
                have kq := Hst.out.row.cell q (by omega)
                have kk := Hst.out.row.cell k (by omega)
                have nq := Hnx.out.cell q (by omega)
                have l0 := cell_lt cx
                have l1 := cell_lt cg
                have l2 := cell_lt nq
                have l3 := cell_lt kq
                have hq1 : (q : Int) < (k : Int) + 1 := by omega
                have hq2 : (0 : Int) ≤ (q : Int) := by omega
                have hq3 : (q : Int) < (g.length : Int) := by omega
                have hk2 : (0 : Int) ≤ (k : Int) := by omega
                have hk3 : (k : Int) < (g.length : Int) := by omega
                have Hset := Lib.hid (set_next (buildL (stepQ (refsN g) cs) k) k g.length (pickL (buildL (stepQ (refsN g) cs) k) (stepQ (refsN g) cs k) k) (buildL_length _ _) hlt)
                have Hgd := Lib.hid (buildL_getD (stepQ (refsN g) cs) g.length k hlt)
                have Hln := Lib.hid hln
                have Hnl := Lib.hid hnl
                clear hln hnl
                by_cases hqk : q < k
                · rw [getD_pre _ _ _ (by rw [buildL_length]; exact hqk)] at nq
                  have hqk' : ((q : Int) == (k : Int)) = false := by rw [beq_eq_false_iff_ne]; omega
                  by_cases hc : (buildL (stepQ (refsN g) cs) k).getD q 0 = q
                  · rw [hc] at nq
                    by_cases hcc : cs.getD k 0 = cs.getD q 0
                    · rw [← hcc] at kq
                      have hsr : eqF (fun x y => x == y) ((refsL (getT g k)).map (lookN cs)) ((refsL (getT g q)).map (lookN cs)) = stepQ (refsN g) cs k q := by
                        rw [eqF_int, look_eq, stepQ, hcc]; simp
                      have hS : ∀ w', Ext wq w' → (w'.cell? ⟨w.heap.size, 0, none⟩ = some (.slice A g.length cap) ∧ w'.cell? ⟨w.heap.size + 2, 0, none⟩ = some (.slice (some ⟨Bc, 0, none⟩) g.length g.length) ∧ w'.cell? ⟨Bc, q, none⟩ = some (.int .i64 ((cs.getD k 0 : Nat) : Int)) ∧ w'.cell? ⟨Bc, k, none⟩ = some (.int .i64 ((cs.getD k 0 : Nat) : Int)) ∧ w'.cell? ⟨Bn, q, none⟩ = some (.int .i64 (q : Int))) := fun w' h => ⟨h.cell cg, h.cell cx, h.cell kq, h.cell kk, h.cell nq⟩
                      have hmq := fun (w1 : World) (v : Value) (hx : Ext wq w1) (hv : Sl intE w1 v (refsL (getT g q))) => turned_int_int 110 #[.pointer (some ⟨w.heap.size + 2, 0, none⟩)] w1 v (refsL (getT g q)) (lookN cs) hv (by have := Hrl.out q (by omega); omega) (map110 w1 _ Bc g.length cs _ (Hst.out.later hx).cbox (Hst.out.later hx).row (Hst.out.later hx).len hn (Hrr.out q (by omega)))
                      have heq := fun (w1 : World) (v : Value) (hx : Ext wq w1) (hv : Sl intE w1 v ((refsL (getT g q)).map (lookN cs))) => equal_int w1 _ v _ _ (Hv2.out.mono hx) hv (by rw [List.length_map]; have := Hrl.out k hlt; omega) (by rw [List.length_map]; have := Hrl.out q (by omega); omega)
                      rw [hsr] at heq
                      have hp := fun (h : stepQ (refsN g) cs k q = true) => pickL_eq hq Hno.out (.inr ⟨hc, h⟩)
                      have hno2 := fun (h : stepQ (refsN g) cs k q = false) => Hno.out.next (fun h2 => by rw [h] at h2; simp at h2)
                      generalize stepQ (refsN g) cs k q = r at heq hp hno2
                      have HS := Lib.hid hS
                      have Hmq := Lib.hid hmq
                      have Heq := Lib.hid heq
                      have Hp0 := Lib.hid hp
                      have Hno0 := Lib.hid hno2
                      have Hlq := Lib.hid (Hls.out wq.drew (Hst.out.ext.trans (Ext.refl wq).drew) q (by omega))
                      generalize (refsL (getT g q)).map (lookN cs) = Mq at Hmq Heq
                      have Hlq' := Hlq
                      generalize hck : cs.getD k 0 = ckv at kq kk HS
                      have Hck := Lib.hid hck
                      clear hS hmq heq hp hno2 hc hcc hsr hck
                      go_wp2_with fail
                      go_region_held3 (fun w' => w'.cell? ⟨w.heap.size, 0, none⟩ = some (.slice A g.length cap) ∧ w'.cell? ⟨w.heap.size + 2, 0, none⟩ = some (.slice (some ⟨Bc, 0, none⟩) g.length g.length) ∧ w'.cell? ⟨Bc, q, none⟩ = some (.int .i64 (ckv : Int)) ∧ w'.cell? ⟨Bc, k, none⟩ = some (.int .i64 (ckv : Int)) ∧ w'.cell? ⟨Bn, q, none⟩ = some (.int .i64 (q : Int))) (first | exact HS.out _ (Ext.refl _).drew | exact HS.out _ hxa | exact HS.out _ hxb | exact HS.out _ hxc) (first | (go_at_call 56; refine Hlq.out.mono ?_; rintro e wa ⟨va, rfl, hva, hxa0⟩; have hxa := ((Ext.refl wq).drew).trans hxa0; obtain ⟨Aa, ca, ea⟩ := hva.any.len; subst ea) | (go_at_call 73; refine (Hmq.out _ _ hxa hva.any).mono ?_; rintro e wb ⟨vb, rfl, hvb, hxb0⟩; have hxb := hxa.trans hxb0; obtain ⟨Ab, cb, eb⟩ := hvb.any.len; subst eb) | (go_at_call 80; refine (Heq.out _ _ hxb hvb.any).mono ?_; rintro e wc ⟨rfl, hxc0⟩; have hxc := hxb.trans hxc0))
                      all_goals
                        have Hst3 := Lib.hid (Hst.out.later hxc)
                        have Hn3 := Lib.hid (Hnx.out.ext hxc)
                        have Hv3 := Lib.hid (Hv2.out.mono hxc)
                        clear cx cg kq kk nq l0 l1 l2 l3 hxa0 hxb0 hxc0 hxa hxb hxc hva hvb HS Hmq Heq Hlq Hlq' Hst Hnx Hv2
                        cases r
                        · have Hno2 := Lib.hid (Hno0.out rfl)
                          go_wp2_with fail
                          go_roundw
                          case rel => exact ⟨q + 1, by omega, by go_num, Hno2, Hst3, Hn3, Hv3⟩
                          case measure => simp [intOf]; omega
                        · have Hp := Lib.hid (Hp0.out rfl)
                          have nk := Hn3.out.cell k (by rw [Hnl.out]; exact hlt)
                          have fk := Hn3.out.frozen k
                          have l2 := cell_lt nk
                          have nk0 := Lib.hid nk
                          go_wp2_with fail
                          clear nk fk l2
                          have Hst4 := Lib.hid (Hst3.out.put Bn k (.int .i64 (q : Int)) Hbn.out.1 Hbn.out.2.1 Hbn.out.2.2.1 Hbn.out.2.2.2)
                          have Hn4 := Lib.hid (show IntRow (wc.setCell ⟨Bn, k, none⟩ (.int .i64 (q : Int))) Bn (buildL (stepQ (refsN g) cs) (k + 1) ++ List.replicate (g.length - (k + 1)) 0) by have h := Hn3.out.set k q; rw [buildL_snoc, ← Hset.out, Hp.out]; exact h)
                          have c4x := Hst4.out.cbox.cell
                          have c4k := Hst4.out.row.cell k (by rw [Hst4.out.len]; exact hlt)
                          have n4k : (wc.setCell ⟨Bn, k, none⟩ (.int .i64 (q : Int))).cell? ⟨Bn, k, none⟩ = some (.int .i64 (q : Int)) := World.cell?_setCell_same' _ _ _ (by rw [nk0.out]; rfl)
                          have hb : ((q : Int) != ((cs.getD k 0 : Nat) : Int)) = (pickL (buildL (stepQ (refsN g) cs) k) (stepQ (refsN g) cs k) k != cs.getD k 0) := by
                            rw [Hp.out, Bool.eq_iff_iff, bne_iff_ne, bne_iff_ne]; omega
                          have hsc := chgB_succ (stepL (refsN g) g.length cs) cs k
                          rw [show (stepL (refsN g) g.length cs).getD k 0 = pickL (buildL (stepQ (refsN g) cs) k) (stepQ (refsN g) cs k) k from Hgd.out, Hch.out, ← hb] at hsc
                          have Hsc := Lib.hid hsc
                          generalize hbb : ((q : Int) != ((cs.getD k 0 : Nat) : Int)) = bb at hb Hsc
                          generalize cs.getD k 0 = ckv at c4k hbb
                          clear hb hsc
                          generalize wc.setCell ⟨Bn, k, none⟩ (.int .i64 (q : Int)) = w5 at Hst4 Hn4 c4x c4k n4k ⊢
                          cases chk
                          · go_quiet (fail)
                            go_wp2_with fail
                            go_roundw
                            case rel => exact ⟨k + 1, by omega, by go_num, by rw [Hsc.out]; simp, Hst4.out.later ((Ext.refl _).drewN _), Hn4.out.ext ((Ext.refl _).drewN _)⟩
                            case measure => simp [intOf]; omega
                          · go_quiet (fail)
                            go_wp2_with fail
                            go_roundw
                            case rel => exact ⟨k + 1, by omega, by go_num, by rw [Hsc.out]; simp, Hst4.out.later ((Ext.refl _).drewN _), Hn4.out.ext ((Ext.refl _).drewN _)⟩
                            case measure => simp [intOf]; omega
                    · have hcc' : (((cs.getD q 0 : Nat) : Int) == ((cs.getD k 0 : Nat) : Int)) = false := by rw [beq_eq_false_iff_ne]; omega
                      have Hno2 := Lib.hid (Hno.out.next (fun h => hcc (stepQ_iff.1 h.2).1))
                      generalize cs.getD q 0 = cqv at kq hcc'
                      generalize cs.getD k 0 = ckv at kk hcc'
                      clear hc hcc
                      go_wp2_with fail
                      go_quiet (fail)
                      go_wp2_with fail
                      go_roundw
                      case rel => exact ⟨q + 1, by omega, by go_num, Hno2, Hst.out.later ((Ext.refl _).drewN _), Hnx.out.ext ((Ext.refl _).drewN _), Hv2.out.mono ((Ext.refl _).drewN _)⟩
                      case measure => simp [intOf]; omega
                  · have hc' : ((((buildL (stepQ (refsN g) cs) k).getD q 0 : Nat) : Int) == (q : Int)) = false := by rw [beq_eq_false_iff_ne]; omega
                    have Hno2 := Lib.hid (Hno.out.next (fun h => hc h.1))
                    generalize (buildL (stepQ (refsN g) cs) k).getD q 0 = c at nq hc'
                    clear hc
                    go_wp2_with fail
                    go_quiet (fail)
                    go_wp2_with fail
                    go_roundw
                    case rel => exact ⟨q + 1, by omega, by go_num, Hno2, Hst.out.later ((Ext.refl _).drewN _), Hnx.out.ext ((Ext.refl _).drewN _), Hv2.out.mono ((Ext.refl _).drewN _)⟩
                    case measure => simp [intOf]; omega
                · obtain rfl : q = k := by omega
                  have hp := pickL_eq hq Hno.out (.inl rfl)
                  have Hp := Lib.hid hp
                  clear hp hqk
                  rw [getD_zero _ _ _ (by rw [buildL_length]; omega)] at nq
                  go_wp2_with fail
                  go_quiet (fail)
                  generalize hw3 : wq.drewN _ = w3
                  have hx3 : Ext wq w3 := hw3 ▸ (Ext.refl wq).drewN _
                  have Hst3 := Lib.hid (Hst.out.later hx3)
                  have Hn3 := Lib.hid (Hnx.out.ext hx3)
                  clear hw3 cx cg kq kk nq l0 l1 l2 l3 hx3
                  have nk := Hn3.out.cell q (by rw [Hnl.out]; exact hlt)
                  have fk := Hn3.out.frozen q
                  have l2 := cell_lt nk
                  have nk0 := Lib.hid nk
                  go_wp2_with fail
                  clear nk fk l2
                  have Hst4 := Lib.hid (Hst3.out.put Bn q (.int .i64 (q : Int)) Hbn.out.1 Hbn.out.2.1 Hbn.out.2.2.1 Hbn.out.2.2.2)
                  have Hn4 := Lib.hid (show IntRow (w3.setCell ⟨Bn, q, none⟩ (.int .i64 (q : Int))) Bn (buildL (stepQ (refsN g) cs) (q + 1) ++ List.replicate (g.length - (q + 1)) 0) by have h := Hn3.out.set q q; rw [buildL_snoc, ← Hset.out, Hp.out]; exact h)
                  have c4x := Hst4.out.cbox.cell
                  have c4k := Hst4.out.row.cell q (by rw [Hst4.out.len]; exact hlt)
                  have n4k : (w3.setCell ⟨Bn, q, none⟩ (.int .i64 (q : Int))).cell? ⟨Bn, q, none⟩ = some (.int .i64 (q : Int)) := World.cell?_setCell_same' _ _ _ (by rw [nk0.out]; rfl)
                  have hb : ((q : Int) != ((cs.getD q 0 : Nat) : Int)) = (pickL (buildL (stepQ (refsN g) cs) q) (stepQ (refsN g) cs q) q != cs.getD q 0) := by
                    rw [Hp.out, Bool.eq_iff_iff, bne_iff_ne, bne_iff_ne]; omega
                  have hsc := chgB_succ (stepL (refsN g) g.length cs) cs q
                  rw [show (stepL (refsN g) g.length cs).getD q 0 = pickL (buildL (stepQ (refsN g) cs) q) (stepQ (refsN g) cs q) q from Hgd.out, Hch.out, ← hb] at hsc
                  have Hsc := Lib.hid hsc
                  generalize hbb : ((q : Int) != ((cs.getD q 0 : Nat) : Int)) = bb at hb Hsc
                  generalize cs.getD q 0 = ckv at c4k hbb
                  clear hb hsc
                  generalize w3.setCell ⟨Bn, q, none⟩ (.int .i64 (q : Int)) = w5 at Hst4 Hn4 c4x c4k n4k ⊢
                  cases chk
                  · go_quiet (fail)
                    go_wp2_with fail
                    go_roundw
                    case rel => exact ⟨q + 1, by omega, by go_num, by rw [Hsc.out]; simp, Hst4.out.later ((Ext.refl _).drewN _), Hn4.out.ext ((Ext.refl _).drewN _)⟩
                    case measure => simp [intOf]; omega
                  · go_quiet (fail)
                    go_wp2_with fail
                    go_roundw
                    case rel => exact ⟨q + 1, by omega, by go_num, by rw [Hsc.out]; simp, Hst4.out.later ((Ext.refl _).drewN _), Hn4.out.ext ((Ext.refl _).drewN _)⟩
                    case measure => simp [intOf]; omega
            · obtain rfl : k = g.length := by omega
              have hz : (buildL (stepQ (refsN g) cs) g.length ++ List.replicate (g.length - g.length) 0) = stepL (refsN g) g.length cs := by
                rw [Nat.sub_self, List.replicate_zero, List.append_nil]; rfl
              have Hn2 := Lib.hid (by have h := Hnx.out; rwa [hz] at h : IntRow wr Bn (stepL (refsN g) g.length cs))
              have Hcb := Lib.hid (Boxed.set (.slice (some ⟨Bn, 0, none⟩) g.length g.length) Hst.out.cbox)
              have Hst5 := Lib.hid (show CSt w w.heap.size (w.heap.size + 2) Bn A cap g.length (stepL (refsN g) g.length cs) (wr.setCell ⟨w.heap.size + 2, 0, none⟩ (.slice (some ⟨Bn, 0, none⟩) g.length g.length)) from
                ⟨Hst.out.ext.setCell (by simp) _, Boxed.other' Hst.out.gbox _ (by omega), Hcb.out, Hn2.out.other _ (fun e => Hbn.out.2.2.1 e.symm), buildL_length _ _, Hbn.out.1, by omega, Hbn.out.2.1, Hbn.out.2.2.1, by omega⟩)
              have cx := Hst.out.cbox.cell
              have fx := Hst.out.cbox.frozen
              have l0 := cell_lt cx
              have Hgn2 := Lib.hid Hgn.out.next
              have hgk : 0 < gk := by have := Hgn.out.2.1; omega
              clear hz Hnx Hst hlt
              go_wp2_with fail
              go_roundg (gk - 1)
              case rel => exact ⟨_, _, _, rfl, Hst5, Hgn2⟩
              case measure => omega
end Go.Proofs.YtldnjnnhfeobdaaGreatDoor
/- Contracts: Equal, Word, Classes. Conditions: lengths below 2^20. -/
namespace Go.Proofs.YtldnjnnhfeobdaaGreatDoor
set_option linter.all false
set_option linter.unusedSimpArgs false
set_option linter.unusedVariables false
open Go.RowKit Go.Shelf

theorem lit_ints (W : World) (l : List Int) (n : Nat) (hn : l.length = n) : Sl intE (W.alloc (.cells (l.map fun x => Value.int .i64 x).toArray 3)) (.slice (some ⟨W.heap.size, 0, none⟩) n n) l := by
  subst hn
  refine ⟨_, _, rfl, fun i x hi => ⟨_, _, _, rfl, ⟨trivial, Nat.le_refl _⟩, rfl, fun j u hj => ?_⟩⟩
  have hlt := (List.getElem?_eq_some_iff.1 hi).1
  cases j with
  | zero =>
    simp at hj
    subst hj
    simp only [intE, Nat.mul_one, Nat.add_zero, Nat.zero_add]
    rw [World.cell?_alloc_new]
    simp [hi]
  | succ j => simp at hj
theorem Sl.nat {w : World} {v : Value} {ns : List Nat} (h : Sl intE w v (ns.map fun (n : Nat) => (n : Int))) : ∃ A cap, v = .slice A ns.length cap ∧
    ∀ i, i < ns.length → ∃ b off, A = some ⟨b, off, none⟩ ∧ w.cell? ⟨b, off + i, none⟩ = some (.int .i64 (ns.getD i 0 : Nat)) := by
  obtain ⟨A, cap, rfl, hs⟩ := h.int
  refine ⟨A, cap, by rw [List.length_map], fun i hi => ?_⟩
  obtain ⟨b, off, e, hc⟩ := hs i (by rw [List.length_map]; exact hi)
  refine ⟨b, off, e, ?_⟩
  rw [hc]
  simp [List.getD_eq_getElem?_getD, List.getElem?_eq_getElem hi]
theorem errG_vals (g : Graph) (ats : List Int) : errG g ats = 0 ∨ errG g ats = 1 ∨ errG g ats = 30 := by
  unfold errG
  split
  · split
    · exact .inr (.inl rfl)
    · exact .inl rfl
  · exact .inr (.inr rfl)
theorem errG_zero {g : Graph} {ats : List Int} (h : errG g ats = 0) : WF g ∧ ∀ a ∈ ats, 0 ≤ a ∧ a < g.length := by
  unfold errG at h
  split at h
  · rename_i h1
    refine ⟨checkG_ok.1 h1, fun a ha => ?_⟩
    cases hc : ats.any (outB g.length) with
    | true => simp [hc] at h
    | false =>
      rw [List.any_eq_false] at hc
      have := hc a ha
      simp only [outB, Bool.not_eq_true', Bool.not_eq_false] at this
      exact hasB_iff.1 this
  · omega
theorem errG_of {g : Graph} {ats : List Int} (h : WF g) (ha : ∀ a ∈ ats, 0 ≤ a ∧ a < g.length) : errG g ats = 0 := by
  unfold errG
  rw [if_pos (checkG_ok.2 h)]
  have : ats.any (outB g.length) = false := by
    rw [List.any_eq_false]
    intro a hm
    have := hasB_iff.2 (ha a hm)
    simp [outB, this]
  rw [this]; rfl
theorem classesG_length (g : Graph) (h : WF g) : (classesG g).length = g.length := (classesN_facts h.abs).1.len
/-- are two types the same? -/
def sameG (g : Graph) (a b : Nat) : Bool := decide ((classesG g).getD a 0 = (classesG g).getD b 0)
def equalG (g : Graph) (a b : Int) : Bool := if errG g [a, b] = 0 then sameG g a.toNat b.toNat else false
def wordG (g : Graph) (a : Int) : Bool := if errG g [a] = 0 then inB (getT g a.toNat).kind 1 3 else false
def classesR (g : Graph) : List Int := if errG g [] = 0 then (classesG g).map fun (n : Nat) => (n : Int) else []

set_option maxRecDepth 100000 in
set_option maxHeartbeats 4000000 in
theorem equal_any (w : World) (gv : Value) (g : Graph) (a b : Int) (hg : Sl tyE w gv g) (hT : Tidy g) (hG : Glob w) :
    Calls Tryz.prog 20 #[gv, .int .i64 a, .int .i64 b] w (Ret w (.tuple #[.bool (equalG g a b), .int .i64 (errG g [a, b])])) := by
  have hop := opened_any (w.alloc (.cells #[.int .i64 a, .int .i64 b] 3)) gv _ g [a, b] (hg.mono ((Ext.refl w).alloc _)) hT (hG.mono ((Ext.refl w).alloc _)) (lit_ints w [a, b] 2 rfl) (by simp)
  have hcl := fun (w' : World) (hx : Ext w w') (hW : WF g) => classes_any w' gv g (hg.mono hx) hT hW
  have hn := hT.len
  obtain ⟨A, cap, rfl⟩ := hg.len
  unfold equalG
  by_cases h0 : errG g [a, b] = 0
  · rw [if_pos h0]
    rw [h0] at hop ⊢
    obtain ⟨hW, hab⟩ := errG_zero h0
    obtain ⟨a0, a1⟩ := hab a (by simp)
    obtain ⟨b0, b1⟩ := hab b (by simp)
    obtain ⟨i, rfl⟩ := Int.eq_ofNat_of_zero_le a0
    obtain ⟨j, rfl⟩ := Int.eq_ofNat_of_zero_le b0
    rw [Int.toNat_natCast, Int.toNat_natCast]
    have hcl := fun w' hx => hcl w' hx hW
    have hln := classesG_length g hW
    have hb : ((((classesG g).getD i 0 : Nat) : Int) == (((classesG g).getD j 0 : Nat) : Int)) = sameG g i j := by
      unfold sameG; rw [Bool.eq_iff_iff, beq_iff_eq, decide_eq_true_eq]; omega
    have Hop := Lib.hid hop
    have Hcl := Lib.hid hcl
    have Hb := Lib.hid hb
    have Hln := Lib.hid hln
    clear hop hcl hg hG hT h0 hab hW hb hln
    go_enter Tryz.func20, Tryz.ntmps20
    go_wp2_with fail
    refine Hop.out.mono ?_
    rintro e w1 ⟨rfl, hx1⟩
    have Hx1 := Lib.hid (((Ext.refl w).alloc (.cells #[.int .i64 i, .int .i64 j] 3)).trans hx1)
    clear hx1
    go_wp2_with fail
    refine (Hcl.out _ (Hx1.out.alloc _)).mono ?_
    rintro e w2 ⟨v, rfl, hv, hx2⟩
    obtain ⟨Av, cv, rfl, hs⟩ := Sl.nat hv.any
    obtain ⟨bb, off, rfl, c1⟩ := hs i (by rw [Hln.out]; omega)
    obtain ⟨bb', off', e2, c2⟩ := hs j (by rw [Hln.out]; omega)
    simp only [Option.some.injEq, Addr.mk.injEq, and_true] at e2
    obtain ⟨rfl, rfl⟩ := e2
    have hb := Hb.out
    have Hx2 := Lib.hid ((Hx1.out.alloc _).trans hx2)
    generalize (classesG g).getD i 0 = ci at c1 hb
    generalize (classesG g).getD j 0 = cj at c2 hb
    rw [Hln.out]
    clear hs hv hx2
    go_wp2_with fail
    go_quiet (fail)
    go_wp2_with fail
    go_ret2
    exact ⟨rfl, Hx2.out.drewN _⟩
  · rw [if_neg h0]
    have hne : (errG g [a, b] != 0) = true := by simpa using h0
    generalize errG g [a, b] = er at hop hne ⊢
    have Hop := Lib.hid hop
    clear hop hcl hg hG hT h0
    go_enter Tryz.func20, Tryz.ntmps20
    go_wp2_with fail
    refine Hop.out.mono ?_
    rintro e w1 ⟨rfl, hx1⟩
    go_wp2_with fail
    go_ret2
    exact ⟨rfl, (((Ext.refl w).alloc _).trans hx1).alloc _⟩

set_option maxRecDepth 100000 in
set_option maxHeartbeats 4000000 in
theorem word_any (w : World) (gv : Value) (g : Graph) (a : Int) (hg : Sl tyE w gv g) (hT : Tidy g) (hG : Glob w) :
    Calls Tryz.prog 25 #[gv, .int .i64 a] w (Ret w (.tuple #[.bool (wordG g a), .int .i64 (errG g [a])])) := by
  have hop := opened_any (w.alloc (.cells #[.int .i64 a] 3)) gv _ g [a] (hg.mono ((Ext.refl w).alloc _)) hT (hG.mono ((Ext.refl w).alloc _)) (lit_ints w [a] 1 rfl) (by simp)
  have hn := hT.len
  obtain ⟨A, cap, rfl, hs⟩ := hg.ty
  unfold wordG
  by_cases h0 : errG g [a] = 0
  · rw [if_pos h0]
    rw [h0] at hop ⊢
    obtain ⟨hW, hab⟩ := errG_zero h0
    obtain ⟨a0, a1⟩ := hab a (by simp)
    obtain ⟨i, rfl⟩ := Int.eq_ofNat_of_zero_le a0
    have hi : i < g.length := by omega
    rw [Int.toNat_natCast, getT_lt hi]
    obtain ⟨b, off, vp, vm, vo, rfl, hat, hof⟩ := hs i hi
    have c0 := hat.c0
    have hkr := (hT.ty _ (List.getElem_mem hi)).2
    have hwr : IntKind.i64.wrap g[i].kind = g[i].kind := IntWalk.i64_in _ (by omega)
    generalize g[i].kind = k at c0 hwr ⊢
    have Hop := Lib.hid hop
    clear hop hg hG hT h0 hab hW hat hof hs hkr
    go_enter Tryz.func25, Tryz.ntmps25
    go_wp2_with fail
    refine Hop.out.mono ?_
    rintro e w1 ⟨rfl, hx1⟩
    have Hx1 := Lib.hid (((Ext.refl w).alloc (.cells #[.int .i64 i] 3)).trans hx1)
    replace c0 := Hx1.out.cell c0
    have l0 := cell_lt c0
    clear hx1
    go_wp2_with fail
    refine (in_any _ _ _ _).mono ?_
    rintro e w2 ⟨rfl, rfl⟩
    go_wp2_with fail
    go_ret2
    exact ⟨rfl, Hx1.out.alloc _⟩
  · rw [if_neg h0]
    have hne : (errG g [a] != 0) = true := by simpa using h0
    generalize errG g [a] = er at hop hne ⊢
    have Hop := Lib.hid hop
    clear hop hg hG hT h0 hs
    go_enter Tryz.func25, Tryz.ntmps25
    go_wp2_with fail
    refine Hop.out.mono ?_
    rintro e w1 ⟨rfl, hx1⟩
    go_wp2_with fail
    go_ret2
    exact ⟨rfl, (((Ext.refl w).alloc _).trans hx1).alloc _⟩
end Go.Proofs.YtldnjnnhfeobdaaGreatDoor
/- Contract: Digest. Conditions: lengths below 2^20. -/
namespace Go.Proofs.YtldnjnnhfeobdaaGreatDoor
set_option linter.all false
set_option linter.unusedSimpArgs false
set_option linter.unusedVariables false
open Go.RowKit Go.Shelf

def hashI (l : List Int) : Int := l.foldl (fun h b => (257 * h + b) % 9007199254740881) 5381
theorem hashI_snoc (l : List Int) (b : Int) : hashI (l ++ [b]) = (257 * hashI l + b) % 9007199254740881 := by simp [hashI]
theorem hashI_rng (l : List Int) : 0 ≤ hashI l ∧ hashI l < 9007199254740881 := by
  have key : ∀ (l : List Int) (h : Int), 0 ≤ h ∧ h < 9007199254740881 → 0 ≤ l.foldl (fun h b => (257 * h + b) % 9007199254740881) h ∧ l.foldl (fun h b => (257 * h + b) % 9007199254740881) h < 9007199254740881 := by
    intro l
    induction l with
    | nil => intro h hh; exact hh
    | cons b l ih => intro h hh; exact ih _ ⟨Int.emod_nonneg _ (by decide), Int.emod_lt_of_pos _ (by decide)⟩
  exact key l 5381 (by decide)
def digI (r : Int) : Int := if r < 10 then 48 + r else 55 + r
def digsR : Nat → Int → List Int
  | 0, _ => []
  | n + 1, h => digsR n (h / 36) ++ [digI (h % 36)]
theorem digsR_length (n : Nat) : ∀ h, (digsR n h).length = n := by
  induction n with
  | zero => intro h; rfl
  | succ n ih => intro h; simp [digsR, ih]
def digits36 : ByteArray := ⟨#[48, 49, 50, 51, 52, 53, 54, 55, 56, 57, 65, 66, 67, 68, 69, 70, 71, 72, 73, 74, 75, 76, 77, 78, 79, 80, 81, 82, 83, 84, 85, 86, 87, 88, 89, 90]⟩
theorem digit_run (w : World) : ∀ r : Nat, r < 36 → (Instr.index 9 (.string digits36) (.int .i64 (r : Int))).run Tryz.prog w = .ok (.int .u8 (digI r)) w
  | 0, _ => by kernel_rfl
  | 1, _ => by kernel_rfl
  | 2, _ => by kernel_rfl
  | 3, _ => by kernel_rfl
  | 4, _ => by kernel_rfl
  | 5, _ => by kernel_rfl
  | 6, _ => by kernel_rfl
  | 7, _ => by kernel_rfl
  | 8, _ => by kernel_rfl
  | 9, _ => by kernel_rfl
  | 10, _ => by kernel_rfl
  | 11, _ => by kernel_rfl
  | 12, _ => by kernel_rfl
  | 13, _ => by kernel_rfl
  | 14, _ => by kernel_rfl
  | 15, _ => by kernel_rfl
  | 16, _ => by kernel_rfl
  | 17, _ => by kernel_rfl
  | 18, _ => by kernel_rfl
  | 19, _ => by kernel_rfl
  | 20, _ => by kernel_rfl
  | 21, _ => by kernel_rfl
  | 22, _ => by kernel_rfl
  | 23, _ => by kernel_rfl
  | 24, _ => by kernel_rfl
  | 25, _ => by kernel_rfl
  | 26, _ => by kernel_rfl
  | 27, _ => by kernel_rfl
  | 28, _ => by kernel_rfl
  | 29, _ => by kernel_rfl
  | 30, _ => by kernel_rfl
  | 31, _ => by kernel_rfl
  | 32, _ => by kernel_rfl
  | 33, _ => by kernel_rfl
  | 34, _ => by kernel_rfl
  | 35, _ => by kernel_rfl
  | n + 36, h => by omega
def digestL (s : ByteArray) : List Int := 84 :: digsR 12 (hashI (byts s))
def digestB (s : ByteArray) : ByteArray := strOfNums (digestL s)
/-- a row of bytes that may be written -/
def ByteRow (w : World) (b : Nat) (xs : List Int) : Prop := ∃ cur : Array Value, w.heap[b]? = some (.cells cur 5 (cur.size, cur.size + 1)) ∧ xs.length ≤ cur.size ∧ ∀ (i : Nat) (x : Int), xs[i]? = some x → cur[i]? = some (Value.int .u8 x)
section
variable {w w' : World} {b : Nat} {xs : List Int}
theorem ByteRow.ext (h : ByteRow w b xs) (hx : Ext w w') : ByteRow w' b xs := by
  obtain ⟨cur, h1, h2⟩ := h
  exact ⟨cur, hx.heap h1, h2⟩
theorem ByteRow.lt (h : ByteRow w b xs) : b < w.heap.size := by
  obtain ⟨cur, h1, _⟩ := h
  exact (Array.getElem?_eq_some_iff.1 h1).1
theorem ByteRow.cell (h : ByteRow w b xs) (i : Nat) (x : Int) (hi : xs[i]? = some x) : w.cell? ⟨b, i, none⟩ = some (.int .u8 x) := by
  obtain ⟨cur, h1, h2, h3⟩ := h
  simp [World.cell?, h1, h3 i x hi]
theorem ByteRow.frozen (h : ByteRow w b xs) (i : Nat) (hi : i < xs.length) : w.frozen? ⟨b, i, none⟩ = false := by
  obtain ⟨cur, h1, h2, h3⟩ := h
  simp [World.frozen?, h1]
  omega
theorem ByteRow.set (h : ByteRow w b xs) (i : Nat) (v : Int) : ByteRow (w.setCell ⟨b, i, none⟩ (.int .u8 v)) b (xs.set i v) := by
  obtain ⟨cur, h1, h2, h3⟩ := h
  refine ⟨cur.setIfInBounds i (.int .u8 v), ?_, by simpa using h2, fun j x hj => ?_⟩
  · simp [World.setCell, Array.getElem?_modify, h1]
  · rw [List.getElem?_set] at hj
    rw [Array.getElem?_setIfInBounds]
    by_cases e : i = j
    · subst e
      simp only [if_true] at hj ⊢
      by_cases hl : i < xs.length
      · simp [hl] at hj; subst hj; simp; omega
      · simp [hl] at hj
    · simp only [if_neg e] at hj ⊢
      exact h3 j x hj
end
theorem ByteRow.made (w : World) (s : ByteArray) : ByteRow (Lib.bytesWorld w 5 s) w.heap.size (byts s) := by
  refine ⟨_, Lib.bytesWorld_at_new w 5 s, ?_, fun i x hi => ?_⟩
  · rw [byts_length]; simp [Lib.bytesCells]
  · have hlt : i < s.size := by
      have := (List.getElem?_eq_some_iff.1 hi).1
      rwa [byts_length] at this
    rw [List.getElem?_eq_getElem (by rw [byts_length]; exact hlt), byts_get s i hlt] at hi
    injection hi with hi
    subst hi
    unfold Lib.bytesCells
    rw [Array.getElem?_append_left (by simpa using hlt)]
    rw [Array.getElem?_map, Array.getElem?_eq_getElem hlt]
    rfl
theorem row_step (k : Nat) (d : Int) (tail : List Int) : (84 :: (List.replicate (k + 1) 48 ++ tail) : List Int).set (k + 1) d = 84 :: (List.replicate k 48 ++ (d :: tail)) := by
  rw [List.set_cons_succ, List.replicate_succ', List.append_assoc, List.set_append_right _ _ (by simp)]
  simp

set_option maxRecDepth 100000 in
set_option maxHeartbeats 4000000 in
theorem digest_any (s : ByteArray) (w : World) (hs : s.size ≤ 1048576) : Calls Tryz.prog 51 #[.string s] w (Ret w (.string (digestB s))) := by
  have hcv := fun (w : World) (s : ByteArray) => Lib.run_convert_string_bytes (P := Tryz.prog) w 9 100 5 s Tryz.underlying9 Tryz.underlying100 Tryz.underlying5
  have hrep : ∀ w, Calls Tryz.prog 100 #[.string ⟨#[48]⟩, .int .i64 12] w (Ret w (.string ⟨#[48, 48, 48, 48, 48, 48, 48, 48, 48, 48, 48, 48]⟩)) := fun (w : World) => Tryz.strings_Repeat ⟨#[48]⟩ 12 w (by decide) (by decide)
  have Hrep := Lib.hid hrep
  have hsl := bytesWorld_sl w s (grownCap w s.size 0 5) (grownCap_ge _ _ _ _)
  have Hx0 := Lib.hid (bytesWorld_ext w 5 s)
  obtain ⟨A0, cap0, e0, hcell⟩ := hsl.byte
  have Hcell := Lib.hid hcell
  have hbl := byts_length s
  have hbr := byts_range s
  rw [hbl] at e0
  obtain ⟨rfl, _, rfl⟩ := Value.slice.inj e0
  clear e0 hcell hrep hsl
  have Hbl := Lib.hid hbl
  have Hbr := Lib.hid hbr
  clear hbl hbr
  go_enter Tryz.func51, Tryz.ntmps51
  go_wp2_with fail
  generalize Lib.bytesWorld w 5 s = w0 at Hx0 Hcell ⊢
  go_loopw [3, 11] (fun h i wr => ∃ k : Nat, k ≤ s.size ∧ i = .int .i64 k ∧ h = .int .i64 (hashI ((byts s).take k)) ∧ Hid (Ext w0 wr)) (fun _ i _ => s.size - (intOf i).toNat)
  case atStart => exact ⟨0, by omega, by simp, by simp [hashI], Lib.hid (Ext.refl _)⟩
  case round =>
    obtain ⟨k, hk, rfl, rfl, Hxr⟩ := hrel
    by_cases hlt : k < s.size
    · obtain ⟨b, off, eA, c0⟩ := Hcell.out k (by rw [Hbl.out]; exact hlt)
      simp only [Option.some.injEq, Addr.mk.injEq, and_true] at eA
      obtain ⟨rfl, rfl⟩ := eA
      replace c0 := Hxr.out.cell c0
      simp only [Nat.zero_add] at c0
      have hr := hashI_rng ((byts s).take k)
      have hb := Hbr.out _ (List.getElem_mem (by rw [Hbl.out]; exact hlt) : (byts s)[k]'(by rw [Hbl.out]; exact hlt) ∈ byts s)
      have hsn := hashI_snoc ((byts s).take k) ((byts s)[k]'(by rw [Hbl.out]; exact hlt))
      rw [take_one (byts s) k (by rw [Hbl.out]; exact hlt)] at hsn
      have Hsn := Lib.hid hsn
      generalize (byts s)[k]'(by rw [Hbl.out]; exact hlt) = bb at c0 hb Hsn
      generalize hashI ((byts s).take k) = h at hr Hsn ⊢
      have hwb : IntKind.i64.wrap bb = bb := IntWalk.i64_in _ (by omega)
      have hw1 : IntKind.i64.wrap (257 * h) = 257 * h := IntWalk.i64_in _ (by omega)
      have hw2 : IntKind.i64.wrap (257 * h + bb) = 257 * h + bb := IntWalk.i64_in _ (by omega)
      clear hsn
      go_wp2_with fail
      go_roundw
      case rel =>
        refine ⟨k + 1, by omega, by go_num, ?_, Hxr⟩
        rw [Hsn.out]
      case measure => simp [intOf]; omega
    · obtain rfl : k = s.size := by omega
      have hH := hashI_rng (byts s)
      have Hx1 := Lib.hid (Hx0.out.trans Hxr.out)
      rw [List.take_of_length_le (by rw [Hbl.out]; exact Nat.le_refl _)]
      have hdg : digestB s = strOfNums (84 :: digsR 12 (hashI (byts s))) := rfl
      have Hdg := Lib.hid hdg
      clear hdg
      generalize hashI (byts s) = h at hH Hdg ⊢
      clear Hcell Hbr Hbl Hx0 Hxr hlt
      go_wp2_with fail
      refine (Hrep.out _).mono ?_
      rintro e w1 ⟨rfl, hx1⟩
      have Hx2 := Lib.hid (Hx1.out.trans hx1)
      clear hx1 Hx1
      have Hrow := Lib.hid (ByteRow.made w1 ((⟨#[84]⟩ : ByteArray) ++ (⟨#[48, 48, 48, 48, 48, 48, 48, 48, 48, 48, 48, 48]⟩ : ByteArray)))
      have Hx3 := Lib.hid (Hx2.out.trans (bytesWorld_ext w1 5 ((⟨#[84]⟩ : ByteArray) ++ (⟨#[48, 48, 48, 48, 48, 48, 48, 48, 48, 48, 48, 48]⟩ : ByteArray))))
      have hb1 : w.heap.size ≤ w1.heap.size := Hx2.out.size
      go_wp2_with fail
      rw [show byts ((⟨#[84]⟩ : ByteArray) ++ (⟨#[48, 48, 48, 48, 48, 48, 48, 48, 48, 48, 48, 48]⟩ : ByteArray)) = 84 :: (List.replicate 12 48 ++ []) from rfl] at Hrow
      generalize Lib.bytesWorld w1 5 ((⟨#[84]⟩ : ByteArray) ++ (⟨#[48, 48, 48, 48, 48, 48, 48, 48, 48, 48, 48, 48]⟩ : ByteArray)) = w3 at Hrow Hx3 ⊢
      generalize grownCap w1 13 0 5 = cap1
      generalize w1.heap.size = b at hb1 Hrow ⊢
      clear Hx2
      go_loopw [3, 7] (fun hv i wr => ∃ (k : Nat) (h' : Int) (tail : List Int), k ≤ 12 ∧ i = .int .i64 k ∧ hv = .int .i64 h' ∧ 0 ≤ h' ∧ h' < 9007199254740881 ∧ tail.length + k = 12 ∧ Hid (digsR 12 h = digsR k h' ++ tail) ∧ Hid (Ext w wr) ∧ Hid (ByteRow wr b (84 :: (List.replicate k 48 ++ tail)))) (fun _ i _ => (intOf i).toNat)
      case atStart => exact ⟨12, h, [], by omega, by simp, rfl, hH.1, hH.2, by simp, Lib.hid (by simp), Hx3, Hrow⟩
      case round =>
        clear Hrow Hx3
        obtain ⟨k, h', tail, hk, rfl, rfl, h0, h1, htl, Hdig, Hx, Hrow⟩ := hrel
        by_cases hk0 : k = 0
        · subst hk0
          have hrow : ByteRow wr b (84 :: digsR 12 h) := by have e := Hrow.out; rw [Hdig.out]; exact e
          have hcs : ∀ i, i < 13 → wr.cell? ⟨b, 0 + i, none⟩ = some (.int .u8 ((84 :: digsR 12 h).getD i 0)) := fun i hi => by
            rw [Nat.zero_add]
            refine hrow.cell i _ ?_
            rw [List.getD_eq_getElem?_getD, List.getElem?_eq_getElem (by rw [List.length_cons, digsR_length]; exact hi)]
            rfl
          have hcv2 := fun W (hW : wr = W) => run_convert_bytes_arg (P := Tryz.prog) (w := W) 100 5 Tryz.underlying100 Tryz.underlying5 b 0 13 cap1 (84 :: digsR 12 h) (by rw [List.length_cons, digsR_length]) (by subst hW; exact hcs) 9 Tryz.underlying9
          have hcv3 := hcv2 _ rfl
          clear hcv2 hcs hrow htl
          go_wp2_with fail
          go_ret
          exact ⟨by rw [Hdg.out]; rfl, Hx.out⟩
        · obtain ⟨m, rfl⟩ : ∃ m, k = m + 1 := ⟨k - 1, by omega⟩
          have hm0 : (0 : Int) ≤ h' % 36 := Int.emod_nonneg _ (by decide)
          have hm1 : h' % 36 < 36 := Int.emod_lt_of_pos _ (by decide)
          have hd0 : (0 : Int) ≤ h' / 36 := Int.ediv_nonneg h0 (by decide)
          have hd1 : h' / 36 < 9007199254740881 := by omega
          have hrow2 := Hrow.out.set (m + 1) (digI (h' % 36))
          rw [row_step] at hrow2
          have Hrow2 := Lib.hid hrow2
          have hdig2 : digsR 12 h = digsR m (h' / 36) ++ (digI (h' % 36) :: tail) := by rw [Hdig.out, digsR]; simp
          have Hdig2 := Lib.hid hdig2
          have c0 : wr.cell? ⟨b, m + 1, none⟩ = some (.int .u8 48) := Hrow.out.cell (m + 1) 48 (by
            rw [List.getElem?_cons_succ, List.getElem?_append_left (by simp), List.getElem?_replicate]; simp)
          have f0 := Hrow.out.frozen (m + 1) (by simp; try omega)
          have l0 := cell_lt c0
          obtain ⟨r, hr⟩ := Int.eq_ofNat_of_zero_le hm0
          have hdr : ∀ w', (Instr.index 9 (.string digits36) (.int .i64 (h' % 36))).run Tryz.prog w' = .ok (.int .u8 (digI (h' % 36))) w' := fun w' => by
            rw [hr]; exact digit_run w' r (by omega)
          unfold digits36 at hdr
          clear hrow2 hdig2 hr
          go_wp2_with fail
          go_roundw
          case rel => exact ⟨m, h' / 36, digI (h' % 36) :: tail, by omega, by go_num, rfl, hd0, hd1, (by simp; try omega), Hdig2, Hx.out.setCell hb1 _, Hrow2⟩
          case measure => (simp [intOf])
end Go.Proofs.YtldnjnnhfeobdaaGreatDoor
/- Contracts: a strings.Builder at the head of a writer: WriteString, String. Conditions: the text's length below 2^47. -/
namespace Go.Proofs.YtldnjnnhfeobdaaGreatDoor
set_option linter.all false
set_option linter.unusedSimpArgs false
set_option linter.unusedVariables false
open Go.RowKit Go.Shelf

/-- a writer (a builder, and the function value fv) in block b, that holds the bytes l; what is its own lies from B on, and none of the blocks K (which are no rows of bytes) is its own -/
structure Wr (w : World) (B b : Nat) (fv : Value) (l : List UInt8) (K : List Nat) : Prop where
  base : B ≤ b
  at_ : ∃ p v, (p = .pointer none ∨ p = .pointer (some ⟨b, 0, none⟩)) ∧ w.heap[b]? = some (.cells #[p, v, fv] 147 (0, 0)) ∧ w.ownsRow B 5 1 v l.length (Lib.byteCells l) ∧ v.ownBlock ≠ some b
  ks : ∀ k ∈ K, k ≠ b ∧ k < w.heap.size ∧ ∀ c f, w.heap[k]? ≠ some (.cells c 5 f)
section
variable {w w' : World} {B b : Nat} {fv : Value} {l : List UInt8} {K : List Nat}
theorem Wr.lt (h : Wr w B b fv l K) : b < w.heap.size := by
  obtain ⟨p, v, _, hb, _⟩ := h.at_
  exact (Array.getElem?_eq_some_iff.1 hb).1
theorem Wr.ext (h : Wr w B b fv l K) (hx : Ext w w') : Wr w' B b fv l K := by
  obtain ⟨p, v, hp, hb, ho, hne⟩ := h.at_
  refine ⟨h.base, ⟨p, v, hp, hx.heap hb, ?_, hne⟩, fun k hm => ⟨(h.ks k hm).1, Nat.lt_of_lt_of_le (h.ks k hm).2.1 hx.size, fun c f e => ?_⟩⟩
  · exact ho.kept (row := none) ⟨Below.os hx, Below.tape hx, Below.output hx, Below.size hx, fun k hk _ => Below.block hx k hk⟩ (by cases v.ownBlock <;> simp)
  · rw [Below.block hx k (h.ks k hm).2.1] at e
    exact (h.ks k hm).2.2 c f e
theorem Wr.add (h : Wr w B b fv l K) (o : Obj) (ho : ∀ c f, o ≠ .cells c 5 f) : Wr (w.alloc o) B b fv l (w.heap.size :: K) := by
  have h1 := h.ext ((Ext.refl w).alloc o)
  have hlt := h.lt
  refine ⟨h.base, h1.at_, fun k hm => ?_⟩
  rcases List.mem_cons.1 hm with rfl | hm
  · refine ⟨by omega, by simp, fun c f e => ?_⟩
    rw [heap_alloc_self] at e
    injection e with e
    exact ho c f e
  · exact h1.ks k hm
theorem Wr.sub {K' : List Nat} (h : Wr w B b fv l K) (hs : ∀ k ∈ K', k ∈ K) : Wr w B b fv l K' := ⟨h.base, h.at_, fun k hk => h.ks k (hs k hk)⟩
theorem Wr.not_own (h : Wr w B b fv l K) {v : Value} {n : Nat} {xs : List Value} (ho : w.ownsRow B 5 1 v n xs) {k : Nat} (hk : k ∈ K) : some k ≠ v.ownBlock := by
  rcases ho.2 with ⟨rfl, _⟩ | ⟨g, cap, cur, rfl, _, hgb, _⟩
  · simp [Value.ownBlock]
  · intro e
    obtain rfl : k = g := by simpa [Value.ownBlock] using e
    exact (h.ks k hk).2.2 _ _ hgb
/-- what a writing leaves -/
def WrPost (w : World) (B b : Nat) (fv : Value) (l : List UInt8) (K : List Nat) (w' : World) : Prop :=
  Wr w' B b fv l K ∧ Below B w w' ∧ ∀ k ∈ K, w'.heap[k]? = w.heap[k]?
end
theorem infoB : (Tryz.prog.info? 5).map (fun i => (i.zero, i.size, i.bytes)) = some (some (.int .u8 0), 1, 1) := by kernel_rfl

set_option maxRecDepth 100000 in
set_option maxHeartbeats 1000000 in
theorem copyCheck_used (b : Nat) (w : World) (h0 : w.cell? ⟨b, 0, none⟩ = some (.pointer (some ⟨b, 0, none⟩))) :
    Calls Tryz.prog 185 #[.pointer (some ⟨b, 0, none⟩)] w fun e w' => e = .returned (.tuple #[]) ∧ w' = w := by
  obtain ⟨j, hj, _⟩ := Option.map_eq_some_iff.1 (show (Tryz.prog.info? 145).map (·.size) = some 2 by kernel_rfl)
  go_enter Tryz.func185, Tryz.ntmps185
  go_wp2
  rw [Lib.run_neq_ptr_same w _ Tryz.underlying143 hj]
  go_wp2
  go_end0
  exact ⟨rfl, rfl⟩
set_option maxRecDepth 100000 in
set_option maxHeartbeats 1000000 in
theorem copyCheck_fresh (b : Nat) (w : World) (h0 : w.cell? ⟨b, 0, none⟩ = some (.pointer none)) (hsh : w.shape? b = some (147, 3)) (hfz : w.frozen? ⟨b, 0, none⟩ = false) :
    Calls Tryz.prog 185 #[.pointer (some ⟨b, 0, none⟩)] w fun e w' => e = .returned (.tuple #[]) ∧ w' = w.setCell ⟨b, 0, none⟩ (.pointer (some ⟨b, 0, none⟩)) := by
  obtain ⟨j, hj, hjs⟩ := Option.map_eq_some_iff.1 (show (Tryz.prog.info? 145).map (·.size) = some 2 by kernel_rfl)
  have hl := cell_lt h0
  go_enter Tryz.func185, Tryz.ntmps185
  go_wp2
  rw [Lib.run_to_unsafe w ⟨b, 0, none⟩ Tryz.underlying143 Tryz.underlying231 hj (by rw [hjs]; decide) hsh (Nat.zero_lt_succ 2)]
  simp only [Result.andThen]
  rw [Oper.upon_value]
  go_wp2
  rw [run_callFunc_extern Tryz.func211 (by kernel_rfl) (by kernel_rfl) (by kernel_rfl) (e := Extern.AbiNoEscape.same) (by kernel_rfl)]
  rw [Lib.run_noEscape]
  simp only [Result.andThen]
  rw [Oper.upon_value]
  go_wp2
  rw [Lib.run_from_unsafe w ⟨b, 0, none⟩ Tryz.underlying231 Tryz.underlying143 hj hsh (by kernel_rfl)]
  simp only [Result.andThen]
  rw [Oper.upon_value]
  go_wp2
  go_end0
  exact ⟨rfl, rfl⟩
theorem byteCells_str (l : List UInt8) (s : ByteArray) : Lib.byteCells l ++ Lib.strCells s = Lib.byteCells (l ++ s.data.toList) := by
  simp [Lib.byteCells, Lib.strCells]

set_option maxRecDepth 100000 in
set_option maxHeartbeats 2000000 in
theorem writeString_any (w : World) (B b : Nat) (fv : Value) (l : List UInt8) (K : List Nat) (s : ByteArray) (h : Wr w B b fv l K) (hB : B ≤ w.heap.size) (hlen : l.length + s.size ≤ 140737488355328) :
    Calls Tryz.prog 148 #[.pointer (some ⟨b, 0, none⟩), .string s] w fun e w' => e = .returned (.tuple #[.int .i64 s.size, .nilIface]) ∧ WrPost w B b fv (l ++ s.data.toList) K w' := by
  obtain ⟨i0, hi, hz0, hz1, hz2⟩ := info_parts infoB
  have hck : Calls Tryz.prog 185 #[.pointer (some ⟨b, 0, none⟩)] w fun e w' => e = .returned (.tuple #[]) ∧ Wr w' B b fv l K ∧ (∃ v, w'.heap[b]? = some (.cells #[.pointer (some ⟨b, 0, none⟩), v, fv] 147 (0, 0)) ∧ w'.ownsRow B 5 1 v l.length (Lib.byteCells l) ∧ v.ownBlock ≠ some b) ∧ Below B w w' ∧ w'.heap.size = w.heap.size ∧ ∀ k, k ≠ b → w'.heap[k]? = w.heap[k]? := by
    obtain ⟨p, v, hp, hb, ho, hne⟩ := h.at_
    rcases hp with rfl | rfl
    · refine (copyCheck_fresh b w (heap_cell hb 0 _ rfl) (by simp [World.shape?, hb]) (heap_frozen hb 0)).mono ?_
      rintro e w' ⟨rfl, rfl⟩
      have hb2 := heap_set hb 0 (.pointer (some ⟨b, 0, none⟩))
      have hoth : ∀ k, k ≠ b → (w.setCell ⟨b, 0, none⟩ (.pointer (some ⟨b, 0, none⟩))).heap[k]? = w.heap[k]? := fun k hk => Below.heap_setCell _ _ _ _ hk
      have ho2 : (w.setCell ⟨b, 0, none⟩ (.pointer (some ⟨b, 0, none⟩))).ownsRow B 5 1 v l.length (Lib.byteCells l) := ho.kept (grownBy_setCell' w b _) (.inr hne)
      refine ⟨rfl, ⟨h.base, ⟨_, v, .inr rfl, hb2, ho2, hne⟩, fun k hk => ⟨(h.ks k hk).1, by simp; exact (h.ks k hk).2.1, fun c f e => ?_⟩⟩, ⟨v, hb2, ho2, hne⟩, (Below.refl B w).setCell (p := ⟨b, 0, none⟩) h.base _, by simp, hoth⟩
      rw [hoth k (h.ks k hk).1] at e
      exact (h.ks k hk).2.2 c f e
    · refine (copyCheck_used b w (heap_cell hb 0 _ rfl)).mono ?_
      rintro e w' ⟨rfl, rfl⟩
      exact ⟨rfl, h, ⟨v, hb, ho, hne⟩, Below.refl _ _, rfl, fun _ _ => rfl⟩
  have Hck := Lib.hid hck
  have hks := Lib.hid h.ks
  have hbase := h.base
  clear hck h
  go_enter Tryz.func148, Tryz.ntmps148
  go_wp2_with fail
  refine Hck.out.mono ?_
  rintro e w1 ⟨rfl, h1, ⟨v, hb, ho, hne⟩, hb1, hsz, hoth⟩
  have H1 := Lib.hid h1
  have Hoth := Lib.hid hoth
  have Hb1 := Lib.hid hb1
  have Hb := Lib.hid hb
  have Ho := Lib.hid ho
  have Hne := Lib.hid hne
  have c0 := heap_cell hb 0 _ rfl
  have c1 := heap_cell hb 1 _ rfl
  have lb := h1.lt
  clear h1 hoth hb1 hb ho hne
  go_wp2_with (at_builtin; refine Lib.wpList_append_own_string _ rfl _ _ 100 9 rfl B 5 i0 Tryz.underlying100 Tryz.underlying9 hi hz0 hz1 hz2 _ _ _ rfl Ho.out s rfl (by simp only [maxLen]; omega) hlen (by omega) ?_)
  intro v' w2 hown' hgrow _
  have hb2 : w2.heap[b]? = some (.cells #[.pointer (some ⟨b, 0, none⟩), v, fv] 147 (0, 0)) := by
    rw [hgrow.block b lb (fun e => Hne.out e.symm)]
    exact Hb.out
  have d0 := heap_cell hb2 0 _ rfl
  have d1 := heap_cell hb2 1 _ rfl
  have f1 := heap_frozen hb2 1
  have l2 : b < w2.heap.size := (Array.getElem?_eq_some_iff.1 hb2).1
  have hKeep := Lib.hid (fun k (hk : k ∈ K) => hgrow.block k ((H1.out.ks k hk).2.1) (H1.out.not_own Ho.out hk))
  have Hown := Lib.hid hown'
  have Hgrow := Lib.hid hgrow
  have Hb2 := Lib.hid hb2
  obtain ⟨ao, n', cap, rfl⟩ : ∃ ao n' cap, v' = .slice ao n' cap := by
    rcases hown'.2 with ⟨hv, _⟩ | ⟨g, cap, cur, hv, _⟩
    · exact ⟨_, _, _, hv⟩
    · exact ⟨_, _, _, hv⟩
  clear hown' hgrow hb2 c0 c1
  go_wp2_with fail
  go_ret2
  have hb3 := heap_set Hb2.out 1 (.slice ao n' cap)
  have hne2 : (Value.slice ao n' cap).ownBlock ≠ some b := by
    rcases Hown.out.2 with ⟨hv, _⟩ | ⟨g, cap', cur, hv, _, hgb, _⟩
    · rw [hv]; simp [Value.ownBlock]
    · rw [hv]
      intro e
      obtain rfl : g = b := by simpa [Value.ownBlock] using e
      rw [Hb2.out] at hgb
      simp at hgb
  have hkeep3 : ∀ k ∈ K, (w2.setCell ⟨b, 1, none⟩ (.slice ao n' cap)).heap[k]? = w.heap[k]? := fun k hk => by
    rw [Below.heap_setCell _ _ _ _ (H1.out.ks k hk).1, hKeep.out k hk, Hoth.out k (H1.out.ks k hk).1]
  refine ⟨rfl, ⟨hbase, ⟨_, _, .inr rfl, hb3, ?_, hne2⟩, fun k hk => ⟨(H1.out.ks k hk).1, ?_, fun c f e => ?_⟩⟩, ?_, hkeep3⟩
  · have := Hown.out.kept (grownBy_setCell' w2 b (.slice ao n' cap)) (.inr hne2)
    rw [List.length_append, ← byteCells_str]
    have e : s.data.toList.length = s.size := by simp
    rw [e]
    exact Hown.out.kept (row := some b) ⟨rfl, rfl, rfl, by simp, fun k _ hk => Below.heap_setCell _ _ _ k (fun e => hk (by rw [e]))⟩ (.inr hne2)
  · have := (H1.out.ks k hk).2.1
    have := Hgrow.out.size
    simp; omega
  · rw [hkeep3 k hk] at e
    exact (hks.out k hk).2.2 c f e
  · exact ((Hb1.out).grown Hgrow.out (by omega) (fun k hk => (Ho.out.lt k hk).1)).setCell (p := ⟨b, 1, none⟩) hbase _

set_option maxRecDepth 100000 in
set_option maxHeartbeats 2000000 in
theorem string_any (w : World) (B b : Nat) (fv : Value) (l : List UInt8) (K : List Nat) (h : Wr w B b fv l K) (h0 : l ≠ []) (hfv : fv.oneCell' = true) :
    Calls Tryz.prog 115 #[.pointer (some ⟨b, 0, none⟩)] w fun e w' => e = .returned (.string ⟨l.toArray⟩) ∧ Below B w w' := by
  obtain ⟨p, v, hp, hbk, hown, hne⟩ := h.at_
  have hl0 : l.length ≠ 0 := by simpa using h0
  obtain ⟨g, cap, cur, rfl, hbg, hg, hnc, hcm, hcs, htake⟩ : ∃ g cap cur, v = .slice (some ⟨g, 0, none⟩) l.length cap ∧ B ≤ g ∧ w.heap[g]? = some (.cells cur 5 (0, 0)) ∧ l.length ≤ cap ∧ cap ≤ maxLen ∧ cur.size = cap * 1 ∧ cur.toList.take (l.length * 1) = Lib.byteCells l := by
    rcases hown.2 with ⟨_, hz⟩ | ⟨g, cap, cur, hv, r⟩
    · exact absurd hz hl0
    · exact ⟨g, cap, cur, hv, r⟩
  have c1 : w.drew.cell? ⟨b, 1, none⟩ = some (.slice (some ⟨g, 0, none⟩) l.length cap) := heap_cell (w := w.drew) (show w.drew.heap[b]? = _ from hbk) 1 _ rfl
  have hSD : (Builtin.unsafeSliceData_ #[100] 192 #[.slice (some ⟨g, 0, none⟩) l.length cap]).run Tryz.prog w.drew = .ok (.pointer (some ⟨g, 0, none⟩)) w.drew :=
    Lib.run_unsafeSliceData_row _ _ _ _ _ _ (by omega)
  have hUS : (Builtin.unsafeString_ #[192, 3] 9 #[.pointer (some ⟨g, 0, none⟩), .int .i64 l.length]).run Tryz.prog w.drew = .ok (.string ⟨l.toArray⟩) (w.drew.freeze ⟨g, 0, none⟩ l.length) := by
    refine Lib.run_unsafeString_row w.drew 192 3 9 5 Tryz.underlying192 (by kernel_rfl) g cur.size (by have hg' : w.drew.heap[g]? = some (.cells cur 5 (0, 0)) := hg; simp [World.shape?, hg']) l h0 (by omega) (by unfold maxLen at hcm; omega) ?_
    intro j x hx
    have := hown.cells (g := g) rfl j (.int .u8 x.toNat) (by simp [Lib.byteCells, hx])
    exact this
  clear hp hbk hown hne htake
  go_enter Tryz.func115, Tryz.ntmps115
  go_wp2
  go_region
  all_goals (go_wp2; go_ret; exact ⟨rfl, Lib.below_freeze (Below.drew (Below.refl B w)) (p := ⟨g, 0, none⟩) hbg _⟩)
end Go.Proofs.YtldnjnnhfeobdaaGreatDoor
/- Contract: the text of a method. Conditions: lengths below 2^47. -/
namespace Go.Proofs.YtldnjnnhfeobdaaGreatDoor
set_option linter.all false
set_option linter.unusedSimpArgs false
set_option linter.unusedVariables false
open Go.RowKit Go.Shelf

theorem ba_app (a b : ByteArray) : (a ++ b).data.toList = a.data.toList ++ b.data.toList := by simp
theorem ba_app_size (a b : ByteArray) : (a ++ b).size = a.size + b.size := by simp
theorem ba_mk (l : List UInt8) : (⟨l.toArray⟩ : ByteArray).data.toList = l := rfl
/-- how numbers of types are written: a function value that lays nothing but new memory -/
structure NumP (w : World) (B : Nat) (g : Nat) (cb : Array Value) (num : Int → ByteArray) (ok : Int → Prop) : Prop where
  ent : Enters Tryz.prog g
  run : ∀ i, ok i → ∀ w', Below B w w' → Calls Tryz.prog g (#[.int .i64 i] ++ cb) w' (Ret w' (.string (num i)))
theorem NumP.later {w w1 : World} {B g : Nat} {cb : Array Value} {num : Int → ByteArray} {ok : Int → Prop} (h : NumP w B g cb num ok) (hb : Below B w w1) : NumP w1 B g cb num ok :=
  ⟨h.ent, fun i hi w' hw => h.run i hi w' (hb.trans hw)⟩
def joinTx (l : List ByteArray) : List UInt8 := Lib.join (l.map (·.data.toList)) [44]
def resultTx (num : Int → ByteArray) (r : Int) : List UInt8 := if r < 0 then [45] else (num r).data.toList
def raisesTx (l : List ByteArray) : List UInt8 := if l.length = 0 then [] else 33 :: joinTx l
def procTx (p : ByteArray) : List UInt8 := if p.toList.isEmpty then [] else 61 :: p.data.toList
def methodTx (num : Int → ByteArray) (m : Method) : List UInt8 :=
  [32] ++ m.name.data.toList ++ [40] ++ joinTx (m.args.map num) ++ [41] ++ resultTx num m.result ++ raisesTx m.raises ++ procTx m.proc
/-- what the calls behind a writing keep -/
structure MS (w : World) (B b : Nat) (fv : Value) (K : List Nat) (bm : Nat) (o : Obj) (l : List UInt8) (w' : World) : Prop where
  wr : Wr w' B b fv l (bm :: K)
  box : w'.heap[bm]? = some o
  below : Below B w w'
  keep : ∀ k ∈ K, w'.heap[k]? = w.heap[k]?
theorem MS.later {w : World} {B b : Nat} {fv : Value} {K : List Nat} {bm : Nat} {o : Obj} {l : List UInt8} {w' w'' : World} (h : MS w B b fv K bm o l w') (hx : Ext w' w'') : MS w B b fv K bm o l w'' :=
  ⟨h.wr.ext hx, hx.heap h.box, Below.trans h.below (Below.mono hx (Nat.le_trans h.wr.base (Nat.le_of_lt h.wr.lt))), fun k hk => by
    rw [Below.block hx k ((h.wr.ks k (by simp [hk])).2.1)]; exact h.keep k hk⟩
theorem MS.write {w : World} {B b : Nat} {fv : Value} {K : List Nat} {bm : Nat} {o : Obj} {l l' : List UInt8} {w' w'' : World} (h : MS w B b fv K bm o l w') (hw : WrPost w' B b fv l' (bm :: K) w'') : MS w B b fv K bm o l' w'' :=
  ⟨hw.1, by rw [hw.2.2 bm (by simp)]; exact h.box, h.below.trans hw.2.1, fun k hk => by rw [hw.2.2 k (by simp [hk])]; exact h.keep k hk⟩
theorem MS.le {w : World} {B b : Nat} {fv : Value} {K : List Nat} {bm : Nat} {o : Obj} {l : List UInt8} {w' : World} (h : MS w B b fv K bm o l w') : B ≤ w'.heap.size := Nat.le_trans h.wr.base (Nat.le_of_lt h.wr.lt)
theorem MS.num {w : World} {B b : Nat} {fv : Value} {K : List Nat} {bm : Nat} {o : Obj} {l : List UInt8} {w' : World} (h : MS w B b fv K bm o l w') : w'.cell? ⟨b, 2, none⟩ = some fv := by
  obtain ⟨p, v, _, hb, _⟩ := h.wr.at_
  exact heap_cell hb 2 _ rfl
theorem join_any (w : World) (v : Value) (xs : List ByteArray) (hv : Sl strE w v xs) (hl : (joinTx xs).length ≤ 140737488355328) (hn : xs.length ≤ 1048576) :
    Calls Tryz.prog 188 #[v, .string ⟨#[44]⟩] w (Ret w (.string ⟨(joinTx xs).toArray⟩)) := by
  obtain ⟨A, cap, rfl, h⟩ := id hv
  by_cases h0 : xs = []
  · subst h0
    refine (Tryz.strings_Join_none A cap ⟨#[44]⟩ w).mono ?_
    rintro e w' ⟨rfl, rfl⟩
    exact ⟨rfl, Ext.refl _⟩
  · obtain ⟨x, hx⟩ : ∃ x, xs[0]? = some x := ⟨_, List.getElem?_eq_getElem (List.length_pos_iff.2 h0)⟩
    obtain ⟨b, off, cs, rfl, ⟨_, hcap⟩, rfl, hc⟩ := h 0 x hx
    have hb := cell_lt (hc 0 _ rfl)
    refine (Tryz.strings_Join b off cap xs ⟨#[44]⟩ w (fun j x hj => ?_) hb (by omega) hcap hl).mono fun e w' h => h
    obtain ⟨b', off', cs', e1, _, rfl, hc'⟩ := h j x hj
    simp only [Option.some.injEq, Addr.mk.injEq, and_true] at e1
    obtain ⟨rfl, rfl⟩ := e1
    simpa [strE] using hc' 0 _ rfl
theorem numMap {w : World} {B g : Nat} {cb : Array Value} {num : Int → ByteArray} {ok : Int → Prop} (h : NumP w B g cb num ok) {w1 : World} (hb : Below B w w1) (hB : B ≤ w1.heap.size) (xs : List Int) (hx : ∀ x ∈ xs, ok x) : MapP intE strE w1 g cb xs num :=
  ⟨h.ent, by
    rintro x hm w' A hxt ⟨_, rfl, rfl⟩
    exact res_str (h.run x (hx x hm) w' (hb.trans (Below.mono hxt hB)))⟩

set_option maxRecDepth 100000 in
set_option maxHeartbeats 8000000 in
theorem method_any (w0 w : World) (B b g : Nat) (cb : Array Value) (num : Int → ByteArray) (ok : Int → Prop) (l : List UInt8) (K : List Nat) (m : Method) (va vr : Value)
    (hx0 : Ext w0 w) (hB0 : w0.heap.size ≤ B) (hW : Wr w B b (.func (.func g) #[] cb) l K) (hB : B ≤ w.heap.size) (hN : NumP w B g cb num ok) (ha : Sl intE w0 va m.args) (hr : Sl strE w0 vr m.raises)
    (hok : ∀ a ∈ m.args, ok a) (hres : 0 ≤ m.result → ok m.result) (han : m.args.length ≤ 1048576) (hrn : m.raises.length ≤ 1048576) (hnm : m.name.size ≤ 1048576) (hpm : m.proc.size ≤ 1048576) (hlen : l.length + (methodTx num m).length ≤ 140737488355328) :
    Calls Tryz.prog 154 #[.pointer (some ⟨b, 0, none⟩), .agg #[.string m.name, va, .int .i64 m.result, vr, .string m.proc]] w fun e w' => e = .returned (.tuple #[]) ∧ WrPost w B b (.func (.func g) #[] cb) (l ++ methodTx num m) K w' := by
  have hbel : ∀ w', Below B w w' → Ext w0 w' := fun w' h => Below.trans hx0 (Below.mono h hB0)
  have hlens : (methodTx num m).length = 1 + m.name.size + 1 + (joinTx (m.args.map num)).length + 1 + (resultTx num m.result).length + (raisesTx m.raises).length + (procTx m.proc).length := by
    simp [methodTx]; omega
  have htu := fun (w' : World) (h : Below B w w') (hB' : B ≤ w'.heap.size) => turned_int_str g cb w' va m.args num (ha.mono (hbel w' h)) han (numMap hN h hB' m.args hok)
  have hjr := fun (w' : World) (h : Below B w w') (h0 : ¬ m.raises.length = 0) => join_any w' vr m.raises (hr.mono (hbel w' h)) (by
    have : (raisesTx m.raises).length = (joinTx m.raises).length + 1 := by unfold raisesTx; rw [if_neg h0]; rfl
    omega) hrn
  have hja := fun (w' : World) (v : Value) (hv : Sl strE w' v (m.args.map num)) => join_any w' v (m.args.map num) hv (by omega) (by rw [List.length_map]; exact han)
  have hnr := fun (w' : World) (h : Below B w w') (h0 : 0 ≤ m.result) => hN.run m.result (hres h0) w' h
  have eg : ∀ args w, (callFunc g args).run Tryz.prog w = .ok (.enter g args) w := hN.ent
  obtain ⟨Aa, ca, rfl⟩ := ha.len
  obtain ⟨Ar, cr, rfl⟩ := hr.len
  have hms : MS w B b (.func (.func g) #[] cb) K w.heap.size (.cells #[.string m.name, .slice Aa m.args.length ca, .int .i64 m.result, .slice Ar m.raises.length cr, .string m.proc] 74) l (w.alloc (.cells #[.string m.name, .slice Aa m.args.length ca, .int .i64 m.result, .slice Ar m.raises.length cr, .string m.proc] 74)) :=
    ⟨hW.add _ (by rintro c f h; injection h with _ h _; cases h), heap_alloc_self _ _, (Below.refl _ _).alloc hB _, fun k hk => Below.heap_alloc _ _ _ (hW.ks k hk).2.1⟩
  have hS : ∀ l' w', MS w B b (.func (.func g) #[] cb) K w.heap.size (.cells #[.string m.name, .slice Aa m.args.length ca, .int .i64 m.result, .slice Ar m.raises.length cr, .string m.proc] 74) l' w' →
      (w'.cell? ⟨w.heap.size, 0, none⟩ = some (.string m.name) ∧ w'.cell? ⟨w.heap.size, 1, none⟩ = some (.slice Aa m.args.length ca) ∧ w'.cell? ⟨w.heap.size, 2, none⟩ = some (.int .i64 m.result) ∧ w'.cell? ⟨w.heap.size, 3, none⟩ = some (.slice Ar m.raises.length cr) ∧ w'.cell? ⟨w.heap.size, 4, none⟩ = some (.string m.proc) ∧ w'.cell? ⟨b, 2, none⟩ = some (.func (.func g) #[] cb)) := fun l' w' h =>
    ⟨heap_cell h.box 0 _ rfl, heap_cell h.box 1 _ rfl, heap_cell h.box 2 _ rfl, heap_cell h.box 3 _ rfl, heap_cell h.box 4 _ rfl, h.num⟩
  have hJl : (joinTx (m.args.map num)).length ≤ 140737488355328 := by omega
  have Hms := Lib.hid hms
  have HS := Lib.hid hS
  have Htu := Lib.hid htu
  have Hjr := Lib.hid hjr
  have Hja := Lib.hid hja
  have Hnr := Lib.hid hnr
  have Hlens := Lib.hid hlens
  have hmd : methodTx num m = [32] ++ m.name.data.toList ++ [40] ++ joinTx (m.args.map num) ++ [41] ++ resultTx num m.result ++ raisesTx m.raises ++ procTx m.proc := rfl
  have Hmd := Lib.hid hmd
  generalize methodTx num m = TX at hlen Hlens Hmd ⊢
  have Hln := Lib.hid hlen
  clear hms hS htu hjr hja hnr hlens hmd hlen ha hr hN hW hbel hres hok
  have hc1 : ¬ 9223372036854775807 < 1 + m.name.size := by omega
  have hc2 : ¬ 9223372036854775807 < 1 + m.name.size + 1 := by omega
  have hc3 : ¬ 9223372036854775807 < 1 + m.name.size + 1 + (joinTx (m.args.map num)).length := by omega
  have hc4 : ¬ 9223372036854775807 < 1 + m.name.size + 1 + (joinTx (m.args.map num)).length + 1 := by omega
  go_enter Tryz.func154, Tryz.ntmps154
  go_wp2_with fail
  generalize w.alloc (.cells #[.string m.name, .slice Aa m.args.length ca, .int .i64 m.result, .slice Ar m.raises.length cr, .string m.proc] 74) = w1 at Hms ⊢
  generalize w.heap.size = bm at Hms HS ⊢
  go_cut [] (fun wx => Hid (MS w B b (.func (.func g) #[] cb) K bm (.cells #[.string m.name, .slice Aa m.args.length ca, .int .i64 m.result, .slice Ar m.raises.length cr, .string m.proc] 74) (l ++ ([32] ++ m.name.data.toList ++ [40] ++ joinTx (m.args.map num) ++ [41])) wx))
  case first =>
    have hm1 := Hms.out.later (Ext.refl _).drew
    have Htu1 := Lib.hid (Htu.out w1.drew hm1.below hm1.le)
    have Hm1 := Lib.hid hm1
    clear hm1
    go_region_held3 (fun w' => w'.cell? ⟨bm, 0, none⟩ = some (.string m.name) ∧ w'.cell? ⟨bm, 1, none⟩ = some (.slice Aa m.args.length ca) ∧ w'.cell? ⟨bm, 2, none⟩ = some (.int .i64 m.result) ∧ w'.cell? ⟨bm, 3, none⟩ = some (.slice Ar m.raises.length cr) ∧ w'.cell? ⟨bm, 4, none⟩ = some (.string m.proc) ∧ w'.cell? ⟨b, 2, none⟩ = some (.func (.func g) #[] cb)) (first | exact HS.out _ _ Hm1.out | exact HS.out _ _ hm4 | exact HS.out _ _ hm3 | exact HS.out _ _ hm2) (first | (go_at_call 189; refine Htu1.out.mono ?_; rintro e w2 ⟨v2, rfl, hv2, hx2⟩; have hm2 := Hm1.out.later hx2; obtain ⟨A2, c2, e2⟩ := hv2.any.len; rw [List.length_map] at e2; subst e2) | (go_at_call 188; refine (Hja.out _ _ hv2.any).mono ?_; rintro e w3 ⟨rfl, hx3⟩; have hm3 := hm2.later hx3) | (go_at_call 148; refine (writeString_any w3 B b (.func (.func g) #[] cb) l (bm :: K) _ hm3.wr hm3.le (by have := Hln.out; have := Hlens.out; simp only [ba_app_size, size_mk]; simp; omega)).mono ?_; rintro e w4 ⟨rfl, hw4⟩; have hm4 := hm3.write hw4))
    all_goals
      go_wp2_with fail
      go_meet
      have h := hm4
      simp only [ba_app, ba_mk] at h
      exact Lib.hid h
  case rest =>
    clear Hms hc1 hc2 hc3 hc4
    replace hcut := Lib.hid hcut.out
    obtain ⟨d0, d1, d2, d3, d4, d5⟩ := HS.out _ _ hcut.out
    go_upto_if 26 with fail
    go_cut [] (fun wx => Hid (MS w B b (.func (.func g) #[] cb) K bm (.cells #[.string m.name, .slice Aa m.args.length ca, .int .i64 m.result, .slice Ar m.raises.length cr, .string m.proc] 74) ((l ++ ([32] ++ m.name.data.toList ++ [40] ++ joinTx (m.args.map num) ++ [41])) ++ resultTx num m.result) wx))
    case first =>
      by_cases hr0 : m.result < 0
      · have hre : resultTx num m.result = [45] := by unfold resultTx; rw [if_pos hr0]
        have Hre := Lib.hid hre
        clear hre
        go_wp2_with fail
        refine (writeString_any wc B b (.func (.func g) #[] cb) (l ++ ([32] ++ m.name.data.toList ++ [40] ++ joinTx (m.args.map num) ++ [41])) (bm :: K) ⟨#[45]⟩ hcut.out.wr hcut.out.le (by have e1 : (⟨#[45]⟩ : ByteArray).size = 1 := rfl; have := Hln.out; have := Hlens.out; rw [Hre.out] at this; simp at this ⊢; omega)).mono ?_
        rintro e w4 ⟨rfl, hw4⟩
        have hm4 := hcut.out.write hw4
        go_wp2_with fail
        go_meet
        rw [Hre.out]
        exact Lib.hid hm4
      · have hre : resultTx num m.result = (num m.result).data.toList := by unfold resultTx; rw [if_neg hr0]
        have Hre := Lib.hid hre
        have hm1 := hcut.out.later (Ext.refl _).drew
        have Hn1 := Lib.hid (Hnr.out wc.drew hm1.below (by omega))
        have Hm1 := Lib.hid hm1
        clear hre hm1 d0 d1 d2 d3 d4 d5
        obtain ⟨d0, d1, d2, d3, d4, d5⟩ := HS.out _ _ hcut.out
        go_wp2_with fail
        go_region_held3 (fun w' => w'.cell? ⟨bm, 0, none⟩ = some (.string m.name) ∧ w'.cell? ⟨bm, 1, none⟩ = some (.slice Aa m.args.length ca) ∧ w'.cell? ⟨bm, 2, none⟩ = some (.int .i64 m.result) ∧ w'.cell? ⟨bm, 3, none⟩ = some (.slice Ar m.raises.length cr) ∧ w'.cell? ⟨bm, 4, none⟩ = some (.string m.proc) ∧ w'.cell? ⟨b, 2, none⟩ = some (.func (.func g) #[] cb)) (first | exact HS.out _ _ Hm1.out | exact HS.out _ _ hm4 | exact HS.out _ _ hm2) (first | (go_at_call 148; refine (writeString_any w2 B b (.func (.func g) #[] cb) (l ++ ([32] ++ m.name.data.toList ++ [40] ++ joinTx (m.args.map num) ++ [41])) (bm :: K) _ hm2.wr hm2.le (by have := Hln.out; have := Hlens.out; rw [Hre.out] at this; simp at this ⊢; omega)).mono ?_; rintro e w4 ⟨rfl, hw4⟩; have hm4 := hm2.write hw4) | (refine Hn1.out.mono ?_; rintro e w2 ⟨rfl, hx2⟩; have hm2 := Hm1.out.later hx2))
        all_goals
          go_wp2_with fail
          go_meet
          rw [Hre.out]
          exact Lib.hid hm4
    case rest =>
      clear d0 d1 d2 d3 d4 d5
      replace hcut := Lib.hid hcut.out
      obtain ⟨d0, d1, d2, d3, d4, d5⟩ := HS.out _ _ hcut.out
      go_upto_if 47 with fail
      go_cut [] (fun wx => Hid (MS w B b (.func (.func g) #[] cb) K bm (.cells #[.string m.name, .slice Aa m.args.length ca, .int .i64 m.result, .slice Ar m.raises.length cr, .string m.proc] 74) (((l ++ ([32] ++ m.name.data.toList ++ [40] ++ joinTx (m.args.map num) ++ [41])) ++ resultTx num m.result) ++ raisesTx m.raises) wx))
      case first =>
        by_cases hr0 : m.raises.length = 0
        · have hre : raisesTx m.raises = [] := by unfold raisesTx; rw [if_pos hr0]
          have hr1 : ¬ (0 : Int) < (m.raises.length : Int) := by omega
          have Hre := Lib.hid hre
          have Hr0 := Lib.hid hr0
          clear hre hr0
          go_wp2_with fail
          go_meet
          rw [Hre.out, List.append_nil]
          exact Lib.hid hcut.out
        · have hre : raisesTx m.raises = 33 :: joinTx m.raises := by unfold raisesTx; rw [if_neg hr0]
          have hr1 : (0 : Int) < (m.raises.length : Int) := by omega
          have hjl : (joinTx m.raises).length ≤ 140737488355328 := by
            have := Hln.out; have := Hlens.out
            rw [hre] at this
            simp at this
            omega
          have hc1 : ¬ 9223372036854775807 < 1 + (joinTx m.raises).length := by omega
          have Hre := Lib.hid hre
          have hm1 := hcut.out.later (Ext.refl _).drew
          have Hn1 := Lib.hid (Hjr.out wc.drew hm1.below hr0)
          have Hm1 := Lib.hid hm1
          clear hre hm1
          go_wp2_with fail
          go_region_held3 (fun w' => w'.cell? ⟨bm, 0, none⟩ = some (.string m.name) ∧ w'.cell? ⟨bm, 1, none⟩ = some (.slice Aa m.args.length ca) ∧ w'.cell? ⟨bm, 2, none⟩ = some (.int .i64 m.result) ∧ w'.cell? ⟨bm, 3, none⟩ = some (.slice Ar m.raises.length cr) ∧ w'.cell? ⟨bm, 4, none⟩ = some (.string m.proc) ∧ w'.cell? ⟨b, 2, none⟩ = some (.func (.func g) #[] cb)) (first | exact HS.out _ _ Hm1.out | exact HS.out _ _ hm4 | exact HS.out _ _ hm2) (first | (go_at_call 188; refine Hn1.out.mono ?_; rintro e w2 ⟨rfl, hx2⟩; have hm2 := Hm1.out.later hx2) | (go_at_call 148; refine (writeString_any w2 B b (.func (.func g) #[] cb) ((l ++ ([32] ++ m.name.data.toList ++ [40] ++ joinTx (m.args.map num) ++ [41])) ++ resultTx num m.result) (bm :: K) _ hm2.wr hm2.le (by have := Hln.out; have := Hlens.out; rw [Hre.out] at this; simp only [ba_app_size, size_mk]; simp at this ⊢; omega)).mono ?_; rintro e w4 ⟨rfl, hw4⟩; have hm4 := hm2.write hw4))
          all_goals
            go_wp2_with fail
            go_meet
            rw [Hre.out]
            have h := hm4
            simp only [ba_app, ba_mk] at h
            exact Lib.hid h
      case rest =>
        clear d0 d1 d2 d3 d4 d5
        replace hcut := Lib.hid hcut.out
        obtain ⟨d0, d1, d2, d3, d4, d5⟩ := HS.out _ _ hcut.out
        have hfin : ∀ wz, MS w B b (.func (.func g) #[] cb) K bm (.cells #[.string m.name, .slice Aa m.args.length ca, .int .i64 m.result, .slice Ar m.raises.length cr, .string m.proc] 74) ((((l ++ ([32] ++ m.name.data.toList ++ [40] ++ joinTx (m.args.map num) ++ [41])) ++ resultTx num m.result) ++ raisesTx m.raises) ++ procTx m.proc) wz → WrPost w B b (.func (.func g) #[] cb) (l ++ TX) K wz := fun wz h => by
          refine ⟨?_, h.below, h.keep⟩
          have e : (((l ++ ([32] ++ m.name.data.toList ++ [40] ++ joinTx (m.args.map num) ++ [41])) ++ resultTx num m.result) ++ raisesTx m.raises) ++ procTx m.proc = l ++ TX := by rw [Hmd.out]; simp
          rw [e] at h
          exact h.wr.sub (fun k hk => by simp [hk])
        have Hfin := Lib.hid hfin
        clear hfin
        cases hpe : m.proc.toList.isEmpty
        · have hre : procTx m.proc = 61 :: m.proc.data.toList := by unfold procTx; rw [hpe]; rfl
          have Hre := Lib.hid hre
          have hc1 : ¬ 9223372036854775807 < 1 + m.proc.size := by omega
          have hm1 := hcut.out.later (Ext.refl _).drew
          have Hm1 := Lib.hid hm1
          clear hre hm1
          go_wp2_with fail
          go_region_held3 (fun w' => w'.cell? ⟨bm, 0, none⟩ = some (.string m.name) ∧ w'.cell? ⟨bm, 1, none⟩ = some (.slice Aa m.args.length ca) ∧ w'.cell? ⟨bm, 2, none⟩ = some (.int .i64 m.result) ∧ w'.cell? ⟨bm, 3, none⟩ = some (.slice Ar m.raises.length cr) ∧ w'.cell? ⟨bm, 4, none⟩ = some (.string m.proc) ∧ w'.cell? ⟨b, 2, none⟩ = some (.func (.func g) #[] cb)) (first | exact HS.out _ _ Hm1.out | exact HS.out _ _ hm4) ((go_at_call 148; refine (writeString_any wc.drew B b (.func (.func g) #[] cb) (((l ++ ([32] ++ m.name.data.toList ++ [40] ++ joinTx (m.args.map num) ++ [41])) ++ resultTx num m.result) ++ raisesTx m.raises) (bm :: K) _ Hm1.out.wr Hm1.out.le (by have := Hln.out; have := Hlens.out; rw [Hre.out] at this; simp only [ba_app_size, size_mk]; simp at this ⊢; omega)).mono ?_; rintro e w4 ⟨rfl, hw4⟩; have hm4 := Hm1.out.write hw4))
          all_goals
            go_wp2_with fail
            go_end0
            have h := hm4
            simp only [ba_app] at h
            exact ⟨rfl, Hfin.out _ (by rw [Hre.out]; exact h)⟩
        · have hre : procTx m.proc = [] := by unfold procTx; rw [hpe]; rfl
          have Hre := Lib.hid hre
          clear hre
          go_wp2_with fail
          go_end0
          exact ⟨rfl, Hfin.out _ (by rw [Hre.out, List.append_nil]; exact hcut.out)⟩
end Go.Proofs.YtldnjnnhfeobdaaGreatDoor
