/- Parts of the proof, joined: Contract: Check. Conditions: lengths below 2^20; A law's arguments, opened: what a reading of a graph, of numbers says of the memory; how a law's answer is told. Bulk at most 2^20; What all laws of the seat share: how their answer is told, what their rows list. No condition; Contract of the reference: is a pair in a list? Conditions: lengths below 2^20; Strings and pairs that a law of the seat is given. No condition; Contract: the references of a type, as an iterator. Conditions: the type is right; Contracts: refs, slices.AppendSeq, slices.Collect, list. Conditions: the type is right; Regions that draw their order, inside a round of a range over a function: what serves outside serves inside. No condition; Plain theory: what is reached, each class once, level by level; two graphs that run beside each other reach the same. No program. No condition; Contract: opened. Conditions: lengths below 2^20. -/
import Derived.Test.YtldnjnnhfeobdaaGreatDoorRows
import Derived.Deep.Slices
import Derived.Carry
import Derived.OpenShut
import Derived.ProofKit
import Derived.Test.YtldnjnnhfeobdaaGreatDoorCards
import Derived.Test.YtldnjnnhfeobdaaGreatDoorTie
import Derived.WalkKit
import Derived.LaidSub
import Derived.Lay
import Derived.LaidMore
import Derived.SevenTiedAt
import Derived.Stop.Joined
import Derived.Deep.DeepHandedRow
import Derived.Lib.LaidTab
import Derived.ChangeMaps5
import Derived.RangeFuncNested
import Derived.RangeFuncBound
import Derived.RangeFuncCalls
import Derived.RangeFuncLeaves
import Derived.Shelf.RegionOpen
import Derived.OwnWalkIn
import Derived.TacticsInMore
import Derived.LoopNIn
import Derived.LoopIn
import Derived.RangeFuncWrites
import Derived.Maps.AppendAt
import Derived.OrdersIn
import Derived.TacticsIn
import Derived.StillTail
import Derived.StillTailTactics
import Derived.Test.YtldnjnnhfeobdaaGreatDoorB3
import Derived.Test.YtldnjnnhfeobdaaGreatDoorB2
namespace Go.Proofs.YtldnjnnhfeobdaaGreatDoor
set_option linter.all false
set_option linter.unusedSimpArgs false
set_option linter.unusedVariables false
open Go.RowKit Go.Shelf

/-- a graph of which nothing is long -/
structure Tidy (g : Graph) : Prop where
  len : g.length ≤ 1048576
  ty : ∀ t ∈ g, TySmall t ∧ 0 ≤ t.kind ∧ t.kind ≤ 255
theorem checkG_bad {g : Graph} {k : Nat} (h4 : ¬ 400 < g.length) (hk : k < g.length) (h : ∀ i (hi : i < g.length), i < k → rightB g g[i] = true) (hb : rightB g g[k] = false) : checkG g = ((k : Int), 30) := by
  unfold checkG
  rw [if_neg h4]
  have : g.findIdx? (fun t => !rightB g t) = some k := by
    rw [List.findIdx?_eq_some_iff_getElem]
    exact ⟨hk, by simp [hb], fun j hj => by simp [h j (by omega) hj]⟩
  rw [this]
theorem checkG_rest {g : Graph} (h4 : ¬ 400 < g.length) (h : ∀ i (hi : i < g.length), rightB g g[i] = true) :
    checkG g = match (List.range g.length).find? fun i => cycN g i g.length i with | some i => ((i : Int), 30) | none => (0, 0) := by
  unfold checkG
  rw [if_neg h4]
  have : g.findIdx? (fun t => !rightB g t) = none := by
    rw [List.findIdx?_eq_none_iff]
    intro t ht
    obtain ⟨i, hi, rfl⟩ := List.mem_iff_getElem.1 ht
    simp [h i hi]
  rw [this]
  rfl
theorem checkG_cyc {g : Graph} {k : Nat} (h4 : ¬ 400 < g.length) (h : ∀ i (hi : i < g.length), rightB g g[i] = true) (hk : k < g.length) (hc : ∀ i, i < k → cycN g i g.length i = false) (hb : cycN g k g.length k = true) : checkG g = ((k : Int), 30) := by
  rw [checkG_rest h4 h]
  have : (List.range g.length).find? (fun i => cycN g i g.length i) = some k := by
    rw [List.find?_eq_some_iff_getElem]
    exact ⟨hb, k, by simpa using hk, by simp, fun j hj => by simp [hc j hj]⟩
  rw [this]
theorem checkG_fine {g : Graph} (h4 : ¬ 400 < g.length) (h : ∀ i (hi : i < g.length), rightB g g[i] = true) (hc : ∀ i, i < g.length → cycN g i g.length i = false) : checkG g = (0, 0) := by
  rw [checkG_rest h4 h]
  have : (List.range g.length).find? (fun i => cycN g i g.length i) = none := by
    rw [List.find?_eq_none]
    intro i hi
    simp [hc i (by simpa using hi)]
  rw [this]
theorem cycN_stop {g : Graph} {i n a : Nat} (h : hasSuperB (getT g a).kind = false) : cycN g i n a = false := by
  cases n with
  | zero => rfl
  | succ n => simp [cycN, h]
theorem cycN_hit {g : Graph} {i n a : Nat} (hn : 0 < n) (h : hasSuperB (getT g a).kind = true) (hs : superN g a = i) : cycN g i n a = true := by
  cases n with
  | zero => omega
  | succ n => simp [cycN, h, hs]
theorem cycN_go {g : Graph} {i n a : Nat} (h : hasSuperB (getT g a).kind = true) (hs : superN g a ≠ i) : cycN g i (n + 1) a = cycN g i n (superN g a) := by
  simp [cycN, h, hs]

set_option maxRecDepth 100000 in
set_option maxHeartbeats 8000000 in
theorem check_any (w : World) (gv : Value) (g : Graph) (hg : Sl tyE w gv g) (hT : Tidy g) (hG : Glob w) :
    Calls Tryz.prog 23 #[gv] w (Ret w (.tuple #[.int .i64 (checkG g).1, .int .i64 (checkG g).2])) := by
  obtain ⟨A, cap, rfl, hs⟩ := hg.ty
  have hlen := hT.len
  have hcall := fun (w' : World) (hx : Ext w w') (i : Nat) (hi : i < g.length) vp vm vo (hof : TyOf w g[i] vp vm vo) =>
    right_any w' _ g g[i] vp vm vo (hg.mono hx) hlen (hG.mono hx) (hof.mono hx) (hT.ty _ (List.getElem_mem hi)).1 (hT.ty _ (List.getElem_mem hi)).2
  have Hcall := Lib.hid hcall
  have Hs := Lib.hid hs
  clear hcall hs hg hT hG
  by_cases h4 : 400 < g.length
  · have e : checkG g = (400, 30) := by unfold checkG; rw [if_pos h4]
    rw [e]
    have h4' : (400 : Int) < (g.length : Int) := by omega
    clear e Hcall Hs
    go_enter Tryz.func23, Tryz.ntmps23
    go_wp2_with fail
    go_ret2
    exact ⟨rfl, Ext.refl _⟩
  · have h4' : ¬ (400 : Int) < (g.length : Int) := by omega
    have H4 := Lib.hid h4
    have hx0 := (Ext.refl w).alloc (.cells #[.slice A g.length cap] 77)
    have hcg := World.cell?_alloc_new (w := w) #[.slice A g.length cap] 77 0
    have Hx0 := Lib.hid hx0
    clear h4 hx0
    go_enter Tryz.func23, Tryz.ntmps23
    go_wp2_with fail
    obtain ⟨w0, hw0⟩ : ∃ w0, w.alloc (.cells #[.slice A g.length cap] 77) = w0 := ⟨_, rfl⟩
    rw [hw0] at hcg Hx0 ⊢
    have Hcg := Lib.hid (show w0.cell? ⟨w.heap.size, 0, none⟩ = some (.slice A g.length cap) from hcg)
    clear hw0 hcg
    go_loopw [16] (fun i wr => ∃ k : Nat, k ≤ g.length ∧ i = .int .i64 k ∧ Hid (Ext w0 wr) ∧ Hid (∀ i (hi : i < g.length), i < k → rightB g g[i] = true)) (fun i _ => g.length - (intOf i).toNat)
    case atStart => exact ⟨0, by omega, by simp, Lib.hid (Ext.refl _), fun i _ h => by omega⟩
    case round =>
      obtain ⟨k, hk, rfl, Hxr, Hno⟩ := hrel
      by_cases hlt : k < g.length
      · obtain ⟨b, off, vp, vm, vo, rfl, hat, hof⟩ := Hs.out k hlt
        have hof' := Lib.hid hof
        obtain ⟨A1, c1, e1⟩ := hof.parts.len
        obtain ⟨A2, c2, e2⟩ := hof.methods.len
        obtain ⟨A3, c3, e3⟩ := hof.overs.len
        subst e1 e2 e3
        obtain ⟨d0, d1, d2, d3, d4, d5, d6, d7, d8, d9⟩ := hat.mono (Hx0.out.trans Hxr.out)
        have hcr := Hxr.out.cell Hcg.out
        have hb1 := cell_lt hcr
        have hi0 : (0 : Int) ≤ (k : Int) := by omega
        have hi1 : (k : Int) < (g.length : Int) := by omega
        clear hat hof
        go_wp2_with fail
        refine (Hcall.out _ ((Hx0.out.trans Hxr.out).alloc _) k hlt _ _ _ hof'.out).mono ?_
        rintro e w1 ⟨rfl, hx1⟩
        have Hx1 := Lib.hid ((Hxr.out.alloc _).trans hx1)
        clear d0 d1 d2 d3 d4 d5 d6 d7 d8 d9 hcr hx1
        cases hr : rightB g g[k]
        · have e := Lib.hid (checkG_bad H4.out hlt Hno.out hr)
          clear hr
          go_wp2_with fail
          go_ret2
          exact ⟨by rw [e.out]; rfl, Hx0.out.trans Hx1.out⟩
        · have Hr := Lib.hid hr
          clear hr
          go_wp2_with fail
          go_roundw
          case rel => exact ⟨k + 1, by omega, by go_num, Hx1, fun i h hi => by
              by_cases e : i = k
              · subst e; exact Hr.out
              · exact Hno.out i h (by omega)⟩
          case measure => simp [intOf]; omega
      · have Hall := Lib.hid (show ∀ i (hi : i < g.length), rightB g g[i] = true from fun i hi => Hno.out i hi (by omega))
        clear Hno
        go_wp2_with fail
        clear hlt
        go_loopw [29] (fun i wq => ∃ k : Nat, k ≤ g.length ∧ i = .int .i64 k ∧ Hid (Ext w0 wq) ∧ Hid (∀ i, i < k → cycN g i g.length i = false)) (fun i _ => g.length - (intOf i).toNat)
        case atStart => exact ⟨0, by omega, by simp, Hxr, fun i h => by omega⟩
        case round =>
          clear Hxr
          obtain ⟨j, hj, rfl, Hxr, Hno⟩ := hrel
          by_cases hlt : j < g.length
          · have hj0 : (j : Int) < (g.length : Int) := by omega
            go_wp2_with fail
            obtain ⟨wo, rfl⟩ : ∃ wo : World, wo = wr := ⟨_, rfl⟩
            go_loopw [8, 35] (fun a i wq => ∃ n q : Nat, n ≤ g.length ∧ i = .int .i64 n ∧ q < g.length ∧ a = .int .i64 q ∧ Hid (Ext w0 wq) ∧ Hid (cycN g j g.length j = cycN g j (g.length - n) q)) (fun _ i _ => g.length - (intOf i).toNat)
            case atStart => exact ⟨0, j, by omega, by simp, hlt, by simp, Hxr, rfl⟩
            case round =>
              clear Hxr
              obtain ⟨n, q, hn, rfl, hq, rfl, Hxr, Hcy⟩ := hrel
              by_cases hnl : n < g.length
              · obtain ⟨b, off, vp, vm, vo, hA, hat, hof⟩ := Hs.out q hq
                subst hA
                have hat' := hat.mono (Hx0.out.trans Hxr.out)
                have d0 := hat'.c0
                have d6 := hat'.c6
                have hi0 : (0 : Int) ≤ (q : Int) := by omega
                have hi1 : (q : Int) < (g.length : Int) := by omega
                have hgq := getT_lt hq
                clear hat hof hat'
                cases hsup : hasSuperB g[q].kind
                · have Hsup := Lib.hid hsup
                  have Hc := Lib.hid (Hcy.out.trans (cycN_stop (by rw [hgq]; exact hsup)))
                  clear hsup hgq
                  go_wp2_with fail
                  refine (hasSuper_any _ _).mono ?_
                  rintro e w' ⟨rfl, rfl⟩
                  rw [Hsup.out]
                  go_wp2_with fail
                  go_roundw
                  case rel => exact ⟨j + 1, by omega, by go_num, Hxr, fun i h => by
                      by_cases e : i = j
                      · subst e; exact Hc.out
                      · exact Hno.out i (by omega)⟩
                  case measure => simp [intOf]; omega
                · have Hsup := Lib.hid hsup
                  have hsg : hasSuperB (getT g q).kind = true := by rw [hgq]; exact hsup
                  obtain ⟨s0, s1⟩ := (right_fine (Hall.out q hq)).super hsup
                  have hse : superN g q = g[q].super.toNat := by unfold superN; rw [hgq]
                  obtain ⟨m, hm⟩ := Int.eq_ofNat_of_zero_le s0
                  rw [hm] at d6 s1 hse
                  have hse' : superN g q = m := by rw [hse]; rfl
                  have hmlt : m < g.length := by omega
                  by_cases hmj : m = j
                  · have e := Lib.hid (checkG_cyc H4.out Hall.out hlt Hno.out (by rw [Hcy.out]; exact cycN_hit (by omega) hsg (by rw [hse']; exact hmj)))
                    have hmj' : ((m : Int) == (j : Int)) = true := by rw [beq_iff_eq]; omega
                    have Hmj := Lib.hid hmj
                    clear hsup hgq hsg hse hse' hm hmj
                    go_wp2_with fail
                    refine (hasSuper_any _ _).mono ?_
                    rintro e w' ⟨rfl, rfl⟩
                    rw [Hsup.out]
                    go_wp2_with fail
                    go_ret2
                    exact ⟨by rw [e.out]; rfl, Hx0.out.trans Hxr.out⟩
                  · have hmj' : ((m : Int) == (j : Int)) = false := by simp; omega
                    have Hc := Lib.hid (show cycN g j g.length j = cycN g j (g.length - (n + 1)) m by
                      rw [Hcy.out, show g.length - n = (g.length - (n + 1)) + 1 by omega, cycN_go hsg (by rw [hse']; exact hmj), hse'])
                    clear hsup hgq hsg hse hse' hm hmj
                    go_wp2_with fail
                    refine (hasSuper_any _ _).mono ?_
                    rintro e w' ⟨rfl, rfl⟩
                    rw [Hsup.out]
                    go_wp2_with fail
                    go_roundw
                    case rel => exact ⟨n + 1, m, by omega, by go_num, hmlt, rfl, Hxr, Hc⟩
                    case measure => simp [intOf]; omega
              · have Hc := Lib.hid (Hcy.out.trans (by rw [show g.length - n = 0 by omega, cycN]))
                go_wp2_with fail
                go_roundw
                case rel => exact ⟨j + 1, by omega, by go_num, Hxr, fun i h => by
                    by_cases e : i = j
                    · subst e; exact Hc.out
                    · exact Hno.out i (by omega)⟩
                case measure => simp [intOf]; omega
          · have e := Lib.hid (checkG_fine H4.out Hall.out (fun i hi => Hno.out i (by omega)))
            go_wp2_with fail
            go_ret2
            exact ⟨by rw [e.out]; rfl, Hx0.out.trans Hxr.out⟩
end Go.Proofs.YtldnjnnhfeobdaaGreatDoor
/- A law's arguments, opened: what a reading of a graph, of numbers says of the memory; how a law's answer is told. Bulk at most 2^20. -/
namespace Go.Proofs.YtldnjnnhfeobdaaGreatDoor
set_option linter.all false
set_option linter.unusedSimpArgs false
set_option linter.unusedVariables false
open Go.RowKit Go.ChangeShapes Go.WideShapes

theorem bulk_part {H : Type} {d : DataW H} {l : List (DataW H)} (h : d ∈ l) : Rows.uptoBulk d ≤ Rows.uptoBulkAll l := by
  induction l with
  | nil => cases h
  | cons x r ih =>
    simp only [Rows.uptoBulkAll]
    cases List.mem_cons.1 h with
    | inl e => subst e; omega
    | inr e => have := ih e; omega
theorem bulk_one {H : Type} (d : DataW H) : 1 ≤ Rows.uptoBulk d := by
  cases d with
  | lit l => cases l <;> simp [Rows.uptoBulk]
  | nil => simp [Rows.uptoBulk]
  | ptr d => simp [Rows.uptoBulk]
  | slice elems spare => simp [Rows.uptoBulk]
  | agg parts => simp [Rows.uptoBulk]
  | iface t d => simp [Rows.uptoBulk]
  | map entries => simp [Rows.uptoBulk]
  | held h => simp [Rows.uptoBulk]
theorem bulk_left {H : Type} (l r : List (DataW H)) : Rows.uptoBulkAll l ≤ Rows.uptoBulkAll (l ++ r) := by
  induction l with
  | nil => simp [Rows.uptoBulkAll]
  | cons x l ih => simp only [List.cons_append, Rows.uptoBulkAll]; omega
theorem bulk_of {H : Type} {l r : List (DataW H)} (h : Rows.uptoSmall H (l ++ r) = true) : ∃ B, B = 1048576 ∧ Rows.uptoBulkAll l ≤ B :=
  ⟨1048576, rfl, Nat.le_trans (bulk_left l r) (of_decide_eq_true h)⟩
theorem bulk_length {H : Type} (l : List (DataW H)) : l.length ≤ Rows.uptoBulkAll l := by
  induction l with
  | nil => simp [Rows.uptoBulkAll]
  | cons x r ih => have := bulk_one x; simp only [Rows.uptoBulkAll, List.length_cons]; omega
theorem list_pick {α : Type} {p : Nat → α → Prop} : ∀ n, (∀ i, i < n → ∃ y, p i y) → ∃ xs : List α, xs.length = n ∧ ∀ i y, xs[i]? = some y → p i y
  | 0, _ => ⟨[], rfl, fun i y h => by simp at h⟩
  | n + 1, h => by
    obtain ⟨xs, hl, hx⟩ := list_pick n (fun i hi => h i (by omega))
    obtain ⟨y, hy⟩ := h n (by omega)
    refine ⟨xs ++ [y], by simp [hl], fun i z hz => ?_⟩
    by_cases hi : i < n
    · rw [List.getElem?_append_left (by omega)] at hz
      exact hx i z hz
    · rw [List.getElem?_append_right (by omega)] at hz
      have hin : i = n := by
        have := (List.getElem?_eq_some_iff.1 hz).1
        simp at this; omega
      subst hin
      simp [hl] at hz
      subst hz
      exact hy

section
variable {H : Type} {enc : TypeId × Value → H} {W : World}
/-- what a reading at a type says of the cells, and of sizes if the bulk is bounded -/
def Opens {α : Type} (enc : TypeId × Value → H) (W : World) (e : TypeId) (E : Elt α) (Sm : Nat → α → Prop) : Prop :=
  ∀ (n fuel : Nat) (cs : List Value) (x : DataW H × List MemPlace), DataW.trod enc Tryz.prog W 0 (fun _ => true) true fuel e cs = some x → ∃ y, E.rel Any W y cs ∧ (Rows.uptoBulk x.1 ≤ n → Sm n y)
/-- .. at the type of a slice -/
def OpensSl {α : Type} (enc : TypeId × Value → H) (W : World) (t : TypeId) (E : Elt α) (Sm : Nat → α → Prop) : Prop :=
  ∀ (n fuel : Nat) (cs : List Value) (x : DataW H × List MemPlace), DataW.trod enc Tryz.prog W 0 (fun _ => true) true fuel t cs = some x → ∃ v xs, cs = [v] ∧ Sl E W v xs ∧ (Rows.uptoBulk x.1 ≤ n → xs.length ≤ n ∧ ∀ y ∈ xs, Sm n y)
theorem opens_slice {α : Type} {t e : TypeId} {E : Elt α} {Sm : Nat → α → Prop} (ht : Tryz.prog.underlying t = some (.slice e)) (hk : Tryz.prog.cellsOf e = E.k) (h : Opens enc W e E Sm) : OpensSl enc W t E Sm := by
  intro n fuel cs x hx
  rcases Go.Deep.open_slice ht hx with ⟨rfl, rfl⟩ | ⟨a, len, cap, m, f, D, Pl, rfl, _, hlc, _, hm, rfl, hel⟩
  · exact ⟨_, [], rfl, Sl.nil _ _, fun _ => ⟨Nat.zero_le _, fun y hy => by simp at hy⟩⟩
  · have hlm : len ≤ m := by rw [hm]; split <;> omega
    have hall : ∀ i, i < len → ∃ y cs', W.cells? 0 (a.add (i * E.k)) E.k = some cs' ∧ E.rel Any W y cs' ∧ (Rows.uptoBulk (D i) ≤ n → Sm n y) := by
      intro i hi
      obtain ⟨cs', h1, h2⟩ := hel i (by omega)
      rw [hk] at h1
      obtain ⟨y, hy, hs⟩ := h n f cs' _ h2
      exact ⟨y, cs', h1, hy, hs⟩
    obtain ⟨xs, hl, hxs⟩ := list_pick len hall
    refine ⟨_, xs, rfl, ?_, fun hb => ⟨?_, fun y hy => ?_⟩⟩
    · subst hl
      refine ⟨some a, cap, rfl, fun i y hi => ?_⟩
      have hlt : i < xs.length := (List.getElem?_eq_some_iff.1 hi).1
      obtain ⟨cs', h1, h2, _⟩ := hxs i y hi
      have hsp : a.spot = none := by
        obtain ⟨c0, h0, h02, _⟩ := hxs 0 xs[0] (List.getElem?_eq_getElem (by omega))
        obtain ⟨_, hcl, hc⟩ := World.cells?_some h0
        have hp := E.pos
        have h00 := hc 0 (by omega)
        rw [List.getElem?_eq_getElem (by omega)] at h00
        simp only [Nat.zero_mul, Addr.add, if_true] at h00
        unfold World.cell? at h00
        cases hs : a.spot with
        | none => rfl
        | some k => rw [hs] at h00; split at h00 <;> simp at h00
      obtain ⟨b, off, spot⟩ := a
      simp only at hsp
      subst hsp
      obtain ⟨_, hcl, hc⟩ := World.cells?_some h1
      refine ⟨b, off, cs', rfl, ⟨trivial, hlc⟩, h2, fun j u hj => ?_⟩
      have hjl : j < E.k := by have := (List.getElem?_eq_some_iff.1 hj).1; omega
      have := hc j hjl
      rw [Go.Deep.add_add] at this
      rw [hj] at this
      have ha : (⟨b, off, none⟩ : Addr).add (i * E.k + j) = ⟨b, off + i * E.k + j, none⟩ := by unfold Addr.add; split <;> simp_all <;> omega
      rwa [ha] at this
    · have h1 := bulk_length ((List.range len).map D)
      simp only [Rows.uptoBulk] at hb
      rw [List.length_map, List.length_range] at h1
      omega
    · obtain ⟨i, hi, rfl⟩ := List.mem_iff_getElem.1 hy
      obtain ⟨_, _, _, hs⟩ := hxs i _ (List.getElem?_eq_getElem hi)
      refine hs ?_
      simp only [Rows.uptoBulk] at hb
      have h1 := bulk_part (d := D i) (l := (List.range len).map D) (List.mem_map_of_mem (by simp; omega))
      omega
theorem opens_int : Opens enc W 3 intE (fun _ _ => True) := by
  intro n fuel cs x hx
  obtain ⟨k, rfl, rfl, _⟩ := DataW.trod_int Tryz.underlying3 hx
  exact ⟨k, rfl, fun _ => trivial⟩
theorem opens_str : Opens enc W 9 strE (fun n s => s.size ≤ n) := by
  intro n fuel cs x hx
  obtain ⟨s, rfl, rfl, _⟩ := DataW.trod_string Tryz.underlying9 hx
  refine ⟨s, rfl, fun h => ?_⟩
  simp only [Rows.uptoBulk] at h
  have : s.data.toList.length = s.size := by simp
  omega
theorem opens_ints : OpensSl enc W 24 intE (fun _ _ => True) := opens_slice Tryz.underlying24 (by kernel_rfl) opens_int
theorem opens_strs : OpensSl enc W 70 strE (fun n s => s.size ≤ n) := opens_slice Tryz.underlying70 (by kernel_rfl) opens_str
theorem list2 {α : Type} {l : List α} (h : l.length = 2) : ∃ a b, l = [a, b] := by
  match l, h with
  | [a, b], _ => exact ⟨a, b, rfl⟩
theorem list3 {α : Type} {l : List α} (h : l.length = 3) : ∃ a b c, l = [a, b, c] := by
  match l, h with
  | [a, b, c], _ => exact ⟨a, b, c, rfl⟩
theorem list5 {α : Type} {l : List α} (h : l.length = 5) : ∃ a b c d e, l = [a, b, c, d, e] := by
  match l, h with
  | [a, b, c, d, e], _ => exact ⟨a, b, c, d, e, rfl⟩
theorem list10 {α : Type} {l : List α} (h : l.length = 10) : ∃ a b c d e f g i j k, l = [a, b, c, d, e, f, g, i, j, k] := by
  match l, h with
  | [a, b, c, d, e, f, g, i, j, k], _ => exact ⟨a, b, c, d, e, f, g, i, j, k, rfl⟩
theorem cells_at {t : TypeId} {k : Nat} (h : Tryz.prog.cellsOf t = k) {l : List Value} {off : Nat} {r : List Value} (hr : (l.drop off).take k = r) : (l.drop off).take (Tryz.prog.cellsOf t) = r := by rw [h]; exact hr
theorem k3 : Tryz.prog.cellsOf 3 = 1 := by kernel_rfl
theorem k4 : Tryz.prog.cellsOf 4 = 1 := by kernel_rfl
theorem k5 : Tryz.prog.cellsOf 5 = 1 := by kernel_rfl
theorem k9 : Tryz.prog.cellsOf 9 = 1 := by kernel_rfl
theorem k24 : Tryz.prog.cellsOf 24 = 1 := by kernel_rfl
theorem k38 : Tryz.prog.cellsOf 38 = 1 := by kernel_rfl
theorem k39 : Tryz.prog.cellsOf 39 = 1 := by kernel_rfl
theorem k40 : Tryz.prog.cellsOf 40 = 1 := by kernel_rfl
theorem k70 : Tryz.prog.cellsOf 70 = 1 := by kernel_rfl
theorem k72 : Tryz.prog.cellsOf 72 = 3 := by kernel_rfl
theorem k74 : Tryz.prog.cellsOf 74 = 5 := by kernel_rfl
theorem k95 : Tryz.prog.cellsOf 95 = 2 := by kernel_rfl
theorem k117 : Tryz.prog.cellsOf 117 = 2 := by kernel_rfl
theorem k42 : Tryz.prog.cellsOf 42 = 10 := by kernel_rfl
theorem fld {fs : Array Field} {f : Nat} {cs : List Value} {ys : List (DataW H × List MemPlace)} (hf : ∀ (i : Nat) (g : Field), fs[i]? = some g → DataW.trod enc Tryz.prog W 0 (fun _ => true) true f g.type ((cs.drop g.offset).take (Tryz.prog.cellsOf g.type)) = ys[i]?)
    (i : Nat) (g : Field) (hg : fs[i]? = some g) {t : TypeId} {off k : Nat} {r : List Value} {y : DataW H × List MemPlace} (ht : g.type = t) (ho : g.offset = off) (hk : Tryz.prog.cellsOf t = k) (hr : (cs.drop off).take k = r) (hy : ys[i]? = some y) :
    DataW.trod enc Tryz.prog W 0 (fun _ => true) true f t r = some y := by
  have h := hf i g hg
  rw [ht, ho, hk, hr, hy] at h
  exact h
theorem opens_part : Opens enc W 95 partE (fun n p => p.name.size ≤ n) := by
  intro n fuel cs x hx
  obtain ⟨ys, f, rfl, rfl, hl, hyl, hf⟩ := DataW.trod_struct Tryz.underlying95 hx
  rw [k95] at hl
  obtain ⟨c0, c1, rfl⟩ := list2 hl
  obtain ⟨y0, y1, rfl⟩ := list2 hyl
  obtain ⟨s, e0, hs⟩ := opens_str n _ _ _ (fld hf 0 _ rfl (t := 9) (off := 0) rfl rfl k9 (r := [c0]) rfl (y := y0) rfl)
  obtain ⟨k, e1, _⟩ := opens_int n _ _ _ (fld hf 1 _ rfl (t := 3) (off := 1) rfl rfl k3 (r := [c1]) rfl (y := y1) rfl)
  simp only [strE, intE, List.cons.injEq, and_true] at e0 e1
  subst e0 e1
  refine ⟨⟨s, k⟩, rfl, fun hb => hs ?_⟩
  simp only [Rows.uptoBulk, Rows.uptoBulkAll, List.map_cons, List.map_nil] at hb
  omega
theorem opens_over : Opens enc W 117 overE (fun n p => p.name.size ≤ n ∧ p.proc.size ≤ n) := by
  intro n fuel cs x hx
  obtain ⟨ys, f, rfl, rfl, hl, hyl, hf⟩ := DataW.trod_struct Tryz.underlying117 hx
  rw [k117] at hl
  obtain ⟨c0, c1, rfl⟩ := list2 hl
  obtain ⟨y0, y1, rfl⟩ := list2 hyl
  obtain ⟨s, e0, hs⟩ := opens_str n _ _ _ (fld hf 0 _ rfl (t := 9) (off := 0) rfl rfl k9 (r := [c0]) rfl (y := y0) rfl)
  obtain ⟨k, e1, hs1⟩ := opens_str n _ _ _ (fld hf 1 _ rfl (t := 9) (off := 1) rfl rfl k9 (r := [c1]) rfl (y := y1) rfl)
  simp only [strE, List.cons.injEq, and_true] at e0 e1
  subst e0 e1
  refine ⟨⟨s, k⟩, rfl, fun hb => ?_⟩
  simp only [Rows.uptoBulk, Rows.uptoBulkAll, List.map_cons, List.map_nil] at hb
  exact ⟨hs (by omega), hs1 (by omega)⟩
def MethSm (n : Nat) (m : Method) : Prop := m.name.size ≤ n ∧ m.proc.size ≤ n ∧ m.args.length ≤ n ∧ m.raises.length ≤ n ∧ ∀ r ∈ m.raises, r.size ≤ n
theorem opens_method : Opens enc W 74 methodE MethSm := by
  intro n fuel cs x hx
  obtain ⟨ys, f, rfl, rfl, hl, hyl, hf⟩ := DataW.trod_struct Tryz.underlying74 hx
  rw [k74] at hl
  obtain ⟨c0, c1, c2, c3, c4, rfl⟩ := list5 hl
  obtain ⟨y0, y1, y2, rfl⟩ := list3 hyl
  obtain ⟨s, e0, hs⟩ := opens_str n _ _ _ (fld hf 0 _ rfl (t := 9) (off := 0) rfl rfl k9 (r := [c0]) rfl (y := y0) rfl)
  obtain ⟨p, e2, hp⟩ := opens_str n _ _ _ (fld hf 2 _ rfl (t := 9) (off := 4) rfl rfl k9 (r := [c4]) rfl (y := y2) rfl)
  obtain ⟨zs, f', rfl, rfl, _, hzl, hg⟩ := DataW.trod_struct Tryz.underlying72 (fld hf 1 _ rfl (t := 72) (off := 1) rfl rfl k72 (r := [c1, c2, c3]) rfl (y := y1) rfl)
  obtain ⟨z0, z1, z2, rfl⟩ := list3 hzl
  obtain ⟨va, zs', ea, ha, hsa⟩ := opens_ints n _ _ _ (fld hg 0 _ rfl (t := 24) (off := 0) rfl rfl k24 (r := [c1]) rfl (y := z0) rfl)
  obtain ⟨k, ek, _⟩ := opens_int n _ _ _ (fld hg 1 _ rfl (t := 3) (off := 1) rfl rfl k3 (r := [c2]) rfl (y := z1) rfl)
  obtain ⟨vr, rs, er, hr, hsr⟩ := opens_strs n _ _ _ (fld hg 2 _ rfl (t := 70) (off := 2) rfl rfl k70 (r := [c3]) rfl (y := z2) rfl)
  simp only [strE, intE, List.cons.injEq, and_true] at e0 e2 ek ea er
  subst e0 e2 ek ea er
  refine ⟨⟨s, zs', k, rs, p⟩, ⟨_, _, rfl, ha, hr⟩, fun hb => ?_⟩
  simp only [Rows.uptoBulk, Rows.uptoBulkAll, List.map_cons, List.map_nil] at hb
  exact ⟨hs (by omega), hp (by omega), (hsa (by omega)).1, (hsr (by omega)).1, (hsr (by omega)).2⟩
theorem opens_parts : OpensSl enc W 38 partE (fun n p => p.name.size ≤ n) := opens_slice Tryz.underlying38 k95 opens_part
theorem opens_methods : OpensSl enc W 39 methodE MethSm := opens_slice Tryz.underlying39 k74 opens_method
theorem opens_overs : OpensSl enc W 40 overE (fun n p => p.name.size ≤ n ∧ p.proc.size ≤ n) := opens_slice Tryz.underlying40 k117 opens_over
structure TySm (n : Nat) (t : Ty) : Prop where
  kind : 0 ≤ t.kind ∧ t.kind ≤ 255
  brand : t.brand.size ≤ n
  opaq : t.opaq.size ≤ n
  parts : t.parts.length ≤ n ∧ ∀ p ∈ t.parts, p.name.size ≤ n
  methods : t.methods.length ≤ n ∧ ∀ m ∈ t.methods, MethSm n m
  overs : t.overs.length ≤ n ∧ ∀ o ∈ t.overs, o.name.size ≤ n ∧ o.proc.size ≤ n
theorem wf_u8 {n : Int} (h : (Lit.int .u8 n).wf = true) : 0 ≤ n ∧ n ≤ 255 := by
  simpa [Lit.wf, IntKind.min, IntKind.max, IntKind.signed, IntKind.bits] using h
set_option maxHeartbeats 1000000 in
theorem opens_ty : Opens enc W 42 tyE TySm := by
  intro n fuel cs x hx
  obtain ⟨ys, f, rfl, rfl, hl, hyl, hf⟩ := DataW.trod_struct Tryz.underlying42 hx
  rw [k42] at hl
  obtain ⟨c0, c1, c2, c3, c4, c5, c6, c7, c8, c9, rfl⟩ := list10 hl
  obtain ⟨y0, y1, y2, y3, y4, y5, y6, y7, y8, y9, rfl⟩ := list10 hyl
  obtain ⟨kd, e0, _, hk⟩ := DataW.trod_int Tryz.underlying5 (fld hf 0 _ rfl (t := 5) (off := 0) rfl rfl k5 (r := [c0]) rfl (y := y0) rfl)
  obtain ⟨lo, e1, _⟩ := opens_int n _ _ _ (fld hf 1 _ rfl (t := 3) (off := 1) rfl rfl k3 (r := [c1]) rfl (y := y1) rfl)
  obtain ⟨hi, e2, _⟩ := opens_int n _ _ _ (fld hf 2 _ rfl (t := 3) (off := 2) rfl rfl k3 (r := [c2]) rfl (y := y2) rfl)
  obtain ⟨br, e3, _⟩ := DataW.trod_bool Tryz.underlying4 (fld hf 3 _ rfl (t := 4) (off := 3) rfl rfl k4 (r := [c3]) rfl (y := y3) rfl)
  obtain ⟨bd, e4, hbd⟩ := opens_str n _ _ _ (fld hf 4 _ rfl (t := 9) (off := 4) rfl rfl k9 (r := [c4]) rfl (y := y4) rfl)
  obtain ⟨op, e5, hop⟩ := opens_str n _ _ _ (fld hf 5 _ rfl (t := 9) (off := 5) rfl rfl k9 (r := [c5]) rfl (y := y5) rfl)
  obtain ⟨su, e6, _⟩ := opens_int n _ _ _ (fld hf 6 _ rfl (t := 3) (off := 6) rfl rfl k3 (r := [c6]) rfl (y := y6) rfl)
  obtain ⟨vp, ps, e7, hp, hps⟩ := opens_parts n _ _ _ (fld hf 7 _ rfl (t := 38) (off := 7) rfl rfl k38 (r := [c7]) rfl (y := y7) rfl)
  obtain ⟨vm, ms, e8, hm, hms⟩ := opens_methods n _ _ _ (fld hf 8 _ rfl (t := 39) (off := 8) rfl rfl k39 (r := [c8]) rfl (y := y8) rfl)
  obtain ⟨vo, os, e9, ho, hos⟩ := opens_overs n _ _ _ (fld hf 9 _ rfl (t := 40) (off := 9) rfl rfl k40 (r := [c9]) rfl (y := y9) rfl)
  simp only [strE, intE, List.cons.injEq, and_true] at e0 e1 e2 e3 e4 e5 e6 e7 e8 e9
  subst e0 e1 e2 e3 e4 e5 e6 e7 e8 e9
  refine ⟨⟨kd, lo, hi, br, bd, op, su, ps, ms, os⟩, ⟨_, _, _, rfl, hp, hm, ho⟩, fun hb => ?_⟩
  simp only [Rows.uptoBulk, Rows.uptoBulkAll, List.map_cons, List.map_nil] at hb
  exact ⟨wf_u8 hk, hbd (by omega), hop (by omega), hps (by omega), hms (by omega), hos (by omega)⟩
theorem opens_graph : OpensSl enc W 23 tyE TySm := opens_slice Tryz.underlying23 k42 opens_ty
theorem tidy_of {g : Graph} (h : g.length ≤ 1048576 ∧ ∀ t ∈ g, TySm 1048576 t) : Tidy g :=
  ⟨h.1, fun t ht => ⟨⟨(h.2 t ht).brand, (h.2 t ht).opaq, (h.2 t ht).parts.1, (h.2 t ht).parts.2, (h.2 t ht).methods.1, (h.2 t ht).methods.2, (h.2 t ht).overs.1, (h.2 t ht).overs.2⟩, (h.2 t ht).kind⟩⟩
end
end Go.Proofs.YtldnjnnhfeobdaaGreatDoor
/- What all laws of the seat share: how their answer is told, what their rows list. No condition. -/
namespace Go.Proofs.YtldnjnnhfeobdaaGreatDoor
set_option linter.all false
set_option linter.unusedSimpArgs false
set_option linter.unusedVariables false
open Go.RowKit Go.ChangeShapes Go.WideShapes Go.ChangeAt

theorem own : ownKnob Tryz.prog.godebug = none := by kernel_rfl
theorem laidOut : laidOutB Tryz.prog = true := by kernel_rfl
/-- the tables that a row lists -/
def tabs : List (String × DataW Unit) := [("math/bits.deBruijn32tab", Rows.laid_math_bits_deBruijn32tab), ("math/bits.deBruijn64tab", Rows.laid_math_bits_deBruijn64tab), ("internal/strconv.uint64pow10", Rows.laid_internal_strconv_uint64pow10)]
theorem glob_of {W : World} (h : laidMetH Tryz.prog tabs W) (hs : W.ShapedOpen Tryz.prog) : Glob W := by
  refine ⟨Go.Proofs.cell_of_shapedOpen_int (zero := #[.int .i64 0]) (t := 3) hs (of_decide_eq_true (by kernel_rfl)) (by kernel_rfl) rfl (by kernel_rfl) (by kernel_rfl) Tryz.underlying3, ?_⟩
  have h2 : laidMetH Tryz.prog [("internal/strconv.uint64pow10", Rows.laid_internal_strconv_uint64pow10)] W := h.filter (fun x => x.1 == "internal/strconv.uint64pow10")
  have h3 : laidMet Tryz.prog [("internal/strconv.uint64pow10", Lib.tabData .u64 Lib.pow10Tab)] W := h2
  exact Lib.tabIs_of_head (rest := []) (g := 1) (t := 257) (e := 206) (n := 20) (by kernel_rfl) (by kernel_rfl) (by kernel_rfl) (by kernel_rfl) (by kernel_rfl) (by kernel_rfl) h3
set_option maxRecDepth 100000 in
theorem open_graph' {H : Type} {enc : TypeId × Value → H} {W : World} {base : Nat} {v : Value} {d : DataW H} {p : List MemPlace} (n : Nat) (hval : Value.okWide Tryz.prog W .any base 23 v) (h : DataW.Trod enc Tryz.prog W 0 (fun _ => true) true 23 v d p) :
    ∃ g, Sl tyE W v g ∧ (Rows.uptoBulk d ≤ n → g.length ≤ n ∧ ∀ t ∈ g, TySm n t) := by
  obtain ⟨a, len, cap, rfl⟩ := okWide_slice Tryz.underlying23 hval
  obtain ⟨f, hf⟩ := h
  obtain ⟨v', g, e, hg, hs⟩ := opens_graph n _ _ _ hf
  have e' : Value.slice a len cap = v' := List.cons.inj e |>.1
  subst e'
  exact ⟨g, hg, hs⟩
set_option maxRecDepth 100000 in
theorem open_nums' {H : Type} {enc : TypeId × Value → H} {W : World} {base : Nat} {v : Value} {d : DataW H} {p : List MemPlace} (n : Nat) (hval : Value.okWide Tryz.prog W .any base 24 v) (h : DataW.Trod enc Tryz.prog W 0 (fun _ => true) true 24 v d p) :
    ∃ xs, Sl intE W v xs ∧ (Rows.uptoBulk d ≤ n → xs.length ≤ n) := by
  obtain ⟨a, len, cap, rfl⟩ := okWide_slice Tryz.underlying24 hval
  obtain ⟨f, hf⟩ := h
  obtain ⟨v', g, e, hg, hs⟩ := opens_ints n _ _ _ hf
  have e' : Value.slice a len cap = v' := List.cons.inj e |>.1
  subst e'
  exact ⟨g, hg, fun hb => (hs hb).1⟩
set_option maxRecDepth 100000 in
theorem open_graph {H : Type} {enc : TypeId × Value → H} {W : World} {base : Nat} {v : Value} {d : DataW H} {p : List MemPlace} (hval : Value.okWide Tryz.prog W .any base 23 v) (h : DataW.Trod enc Tryz.prog W 0 (fun _ => true) true 23 v d p) {B : Nat} (hB : B = 1048576) (hb : Rows.uptoBulk d ≤ B) :
    ∃ g, Sl tyE W v g ∧ Tidy g := by
  obtain ⟨g, hg, hs⟩ := open_graph' B hval h
  have hs := hs hb
  rw [hB] at hs
  exact ⟨g, hg, tidy_of hs⟩
set_option maxRecDepth 100000 in
theorem open_nums {H : Type} {enc : TypeId × Value → H} {W : World} {base : Nat} {v : Value} {d : DataW H} {p : List MemPlace} (hval : Value.okWide Tryz.prog W .any base 24 v) (h : DataW.Trod enc Tryz.prog W 0 (fun _ => true) true 24 v d p) {B : Nat} (hB : B = 1048576) (hb : Rows.uptoBulk d ≤ B) :
    ∃ xs, Sl intE W v xs ∧ xs.length ≤ 1048576 := by
  obtain ⟨g, hg, hs⟩ := open_nums' B hval h
  have hs := hs hb
  rw [hB] at hs
  exact ⟨g, hg, hs⟩
theorem trodAll_stays {H : Type} {enc : TypeId × Value → H} {W W' : World} (hx : Ext W W') : ∀ {ts : List TypeId} {vs : List Value} {ds : List (DataW H)} {ps : List MemPlace}, (∀ t ∈ ts, Tryz.prog.readableRec t = true ∧ t < Tryz.prog.types.size) →
    DataW.TrodAll enc Tryz.prog W 0 (fun _ => true) true ts vs ds ps → (∀ p ∈ ps, p.block < W.heap.size) → DataW.TrodAll enc Tryz.prog W' 0 (fun b => decide (b < W.heap.size)) true ts vs ds ps
  | [], [], [], _, _, h, _ => h
  | t :: ts, v :: vs, d :: ds, ps, ht, ⟨p, q, h1, h2, e⟩, hs => by
    subst e
    exact ⟨p, q, Below.trod laidOut (ht t (by simp)).1 (ht t (by simp)).2 h1 hx (fun x hx => hs x (by simp [hx])), trodAll_stays hx (fun t h => ht t (by simp [h])) h2 (fun x hx => hs x (by simp [hx])), rfl⟩
/-- a law that returns true, and lays nothing but new memory, answers as its row says -/
theorem law_post {H : Type} {enc : TypeId × Value → H} {fn : Func} {s : ChangeSpec} {W W' : World} {args : Array Value} {ds gs : List (DataW H)} {before : List MemPlace} (hv : s.vars = []) (hr : fn.resultTypes = #[4])
    (hp : ∀ t ∈ fn.params.toList, Tryz.prog.readableRec t = true ∧ t < Tryz.prog.types.size) (hs : s.fn H ds = { results := [.lit (.bool true)], args := ds })
    (hW : DataW.Whole enc Tryz.prog fn.params.toList s.vars false W args.toList ds gs before) (hx : Ext W W') :
    s.post enc Tryz.prog fn false true false false W args (.bool true) W' := by
  have hW' := hW
  obtain ⟨p, q, hA, hV, rfl, _, _⟩ := hW
  rw [hv] at hV
  obtain ⟨rfl, rfl⟩ := trodVars_none hV
  rw [List.append_nil] at hW'
  have hlt : ∀ x ∈ p, x.block < W.heap.size := fun x h => hW'.lt x h
  refine ⟨ds, [], p, [], p, [], hW', ?_, ?_, ?_, ?_, fun h => by cases h⟩
  · rw [List.append_nil, hs, hr]
    exact trodAll_mk1 (shut_bool Tryz.underlying4 _)
  · rw [List.append_nil, hs]
    exact trodAll_stays hx hp hA hlt
  · rw [List.append_nil, hs, hv]
    exact rfl
  · exact Below.frame hx _
end Go.Proofs.YtldnjnnhfeobdaaGreatDoor
/- Contract of the reference: is a pair in a list? Conditions: lengths below 2^20. -/
namespace Go.Proofs.YtldnjnnhfeobdaaGreatDoor
set_option linter.all false
set_option linter.unusedSimpArgs false
set_option linter.unusedVariables false
open Go.RowKit Go.Shelf

def pairE : Elt (Int × Int) where
  k := 2
  pos := by decide
  rel _ _ p cs := cs = [.int .i64 p.1, .int .i64 p.2]
  len := by rintro F w x cs rfl; rfl
  one := by rintro F w x cs rfl; simp [Value.oneCell']
  mono := fun _ _ _ _ _ _ _ _ h => h
theorem Sl.pair {w : World} {v : Value} {xs : List (Int × Int)} (h : Sl pairE w v xs) : ∃ A cap, v = .slice A xs.length cap ∧
    ∀ i (hi : i < xs.length), ∃ b off, A = some ⟨b, off, none⟩ ∧ w.cell? ⟨b, off + i * 2, none⟩ = some (.int .i64 xs[i].1) ∧ w.cell? ⟨b, off + i * 2 + 1, none⟩ = some (.int .i64 xs[i].2) := by
  obtain ⟨A, cap, rfl, h⟩ := h
  refine ⟨A, cap, rfl, fun i hi => ?_⟩
  obtain ⟨b, off, cs, hA, _, rfl, hc⟩ := h i xs[i] (List.getElem?_eq_getElem hi)
  exact ⟨b, off, hA, by simpa [pairE] using hc 0 _ rfl, by simpa [pairE] using hc 1 _ rfl⟩
set_option maxRecDepth 100000 in
set_option maxHeartbeats 4000000 in
theorem paired_any (w : World) (v : Value) (l : List (Int × Int)) (a b : Int) (hv : Sl pairE w v l) (hl : l.length ≤ 1048576) :
    Calls Tryz.prog 58 #[v, .int .i64 a, .int .i64 b] w fun e w' => e = .returned (.bool (decide ((a, b) ∈ l))) ∧ w' = w := by
  obtain ⟨A, cap, rfl, hs⟩ := hv.pair
  have Hs := Lib.hid hs
  clear hs hv
  go_enter Tryz.func58, Tryz.ntmps58
  go_wp2_with fail
  go_loopw [7] (fun u wr => ∃ k : Nat, k ≤ l.length ∧ u = .int .i64 k ∧ wr = w ∧ Hid (∀ j (hj : j < l.length), j < k → l[j] ≠ (a, b))) (fun u _ => l.length - (intOf u).toNat)
  case atStart => exact ⟨0, by omega, rfl, rfl, Lib.hid (fun j _ h => by omega)⟩
  case round =>
    obtain ⟨k, hk, rfl, rfl, Hno⟩ := hrel
    by_cases hlt : k < l.length
    · obtain ⟨b1, o1, rfl, c1, c2⟩ := Hs.out k hlt
      have l1 := cell_lt c1
      have i0 : (0 : Int) ≤ (k : Int) := by omega
      have i1 : (k : Int) < (l.length : Int) := by omega
      have hin : l[k] = (a, b) → decide ((a, b) ∈ l) = true := fun e => decide_eq_true (by rw [← e]; exact List.getElem_mem hlt)
      have hnext := fun (h : l[k] ≠ (a, b)) j (hj : j < l.length) (hjk : j < k + 1) => if e : j = k then by subst e; exact h else Hno.out j hj (by omega)
      have Hin := Lib.hid hin
      have Hnext := Lib.hid hnext
      clear hin hnext
      by_cases h1 : l[k].1 = a
      · by_cases h2 : l[k].2 = b
        · have Ht := Lib.hid (Hin.out (Prod.ext h1 h2))
          have q1 : (l[k].1 == a) = true := by simpa using h1
          have q2 : (l[k].2 == b) = true := by simpa using h2
          clear h1 h2
          go_wp2_with fail
          go_ret
          rw [Ht.out]
          exact ⟨rfl, rfl⟩
        · have Hn := Lib.hid (Hnext.out (fun e => h2 (by rw [e])))
          have q1 : (l[k].1 == a) = true := by simpa using h1
          have q2 : (l[k].2 == b) = false := by rw [beq_eq_false_iff_ne]; exact h2
          clear h1 h2
          go_wp2_with fail
          go_roundw
          case rel => exact ⟨k + 1, by omega, by go_num, trivial, Hn⟩
          case measure => simp [intOf]; omega
      · have Hn := Lib.hid (Hnext.out (fun e => h1 (by rw [e])))
        have q1 : (l[k].1 == a) = false := by rw [beq_eq_false_iff_ne]; exact h1
        clear h1
        go_wp2_with fail
        go_roundw
        case rel => exact ⟨k + 1, by omega, by go_num, trivial, Hn⟩
        case measure => simp [intOf]; omega
    · have i1 : ¬ (k : Int) < (l.length : Int) := by omega
      have hf : decide ((a, b) ∈ l) = false := decide_eq_false (fun hm => by
        obtain ⟨j, hj, e⟩ := List.mem_iff_getElem.1 hm
        exact Hno.out j hj (by omega) e)
      have Hf := Lib.hid hf
      clear hf
      go_wp2_with fail
      go_ret
      rw [Hf.out]
      exact ⟨rfl, rfl⟩
end Go.Proofs.YtldnjnnhfeobdaaGreatDoor
/- Strings and pairs that a law of the seat is given. No condition. -/
namespace Go.Proofs.YtldnjnnhfeobdaaGreatDoor
set_option linter.all false
set_option linter.unusedSimpArgs false
set_option linter.unusedVariables false
open Go.RowKit Go.ChangeShapes Go.WideShapes Go.ChangeAt

set_option maxRecDepth 100000 in
theorem open_text {H : Type} {enc : TypeId × Value → H} {W : World} {base : Nat} {v : Value} {d : DataW H} {p : List MemPlace} (hval : Value.okWide Tryz.prog W .any base 9 v) (h : DataW.Trod enc Tryz.prog W 0 (fun _ => true) true 9 v d p) {B : Nat} (hB : B = 1048576) (hb : Rows.uptoBulk d ≤ B) :
    ∃ s, v = .string s ∧ s.size ≤ 1048576 := by
  obtain ⟨s, rfl, rfl, rfl, _⟩ := Go.ChangeMaps.open_string Tryz.underlying9 hval h
  refine ⟨s, rfl, ?_⟩
  simp only [Rows.uptoBulk] at hb
  have : s.data.toList.length = s.size := by simp
  omega
end Go.Proofs.YtldnjnnhfeobdaaGreatDoor
/- Contract: the references of a type, as an iterator. Conditions: the type is right. -/
namespace Go.Proofs.YtldnjnnhfeobdaaGreatDoor
set_option linter.all false
set_option linter.unusedSimpArgs false
set_option linter.unusedVariables false
open Go.RowKit Go.Shelf
attribute [local go_sem] Oper.semAt_some

/-- what a round keeps: what lay below n₀; types and methods in boxes -/
def KpR (n₀ : Nat) (W W' : World) : Prop := Below n₀ W W' ∧ ∀ (b : Nat) (c : Array Value) (ty : TypeId) (f : Nat × Nat), ty = 42 ∨ ty = 74 → W.heap[b]? = some (.cells c ty f) → W'.heap[b]? = some (.cells c ty f)
theorem KpR.trans {n₀ : Nat} {A B C : World} (h : KpR n₀ A B) (k : KpR n₀ B C) : KpR n₀ A C := ⟨h.1.trans k.1, fun b c ty f ht hb => k.2 b c ty f ht (h.2 b c ty f ht hb)⟩
theorem KpR.refl (n₀ : Nat) (A : World) : KpR n₀ A A := ⟨Below.refl _ _, fun _ _ _ _ _ h => h⟩
theorem KpR.alloc {n₀ : Nat} {A : World} (h : n₀ ≤ A.heap.size) (o : Obj) : KpR n₀ A (A.alloc o) :=
  ⟨(Below.refl _ _).alloc h o, fun b c ty f ht hb => (Below.heap_alloc _ _ _ (Array.getElem?_eq_some_iff.1 hb).1).trans hb⟩
theorem KpR.book {n₀ : Nat} {w : World} (hn : n₀ ≤ w.heap.size) (W : World) (l : Nat) (o o' : Obj) (hl : w.heap.size ≤ l) (h : W.heap[l]? = some o) (h1 : o.isCells = false) (h2 : o.isWalk = false) : KpR n₀ W (W.putObj l o') :=
  ⟨belowK_b hn W l o o' hl h h1 h2, fun b c ty f ht hb => by
    have hne : b ≠ l := by rintro rfl; rw [h] at hb; injection hb with hb; subst hb; simp [Obj.isCells] at h1
    exact (World.putObj_heap_other hne).trans hb⟩
theorem KpR.ext {w0 A B : World} (h : KpR w0.heap.size A B) (k : Ext w0 A) : Ext w0 B := Below.trans k h.1

/-- a method in a box -/
def MethBox (w : World) (b : Nat) (m : Method) (va vr : Value) : Prop := w.heap[b]? = some (.cells #[.string m.name, va, .int .i64 m.result, vr, .string m.proc] 74 (0, 0))
theorem TyBox.kp {n₀ : Nat} {A B : World} {b : Nat} {t : Ty} {vp vm vo : Value} (h : TyBox A b t vp vm vo) (k : KpR n₀ A B) : TyBox B b t vp vm vo := k.2 _ _ _ _ (.inl rfl) h
theorem MethBox.kp {n₀ : Nat} {A B : World} {b : Nat} {m : Method} {va vr : Value} (h : MethBox A b m va vr) (k : KpR n₀ A B) : MethBox B b m va vr := k.2 _ _ _ _ (.inr rfl) h
theorem MethBox.ext {A B : World} {b : Nat} {m : Method} {va vr : Value} (h : MethBox A b m va vr) (k : Ext A B) : MethBox B b m va vr := k.heap h
theorem MethBox.made (A : World) (m : Method) (va vr : Value) : MethBox (A.alloc (.cells #[.string m.name, va, .int .i64 m.result, vr, .string m.proc] 74)) A.heap.size m va vr := World.alloc_heap_new A _

theorem take_map_one {α β : Type} (f : α → β) (l : List α) (k : Nat) (h : k < l.length) : (l.map f).take k ++ [f l[k]] = (l.map f).take (k + 1) := by
  rw [List.take_succ_eq_append_getElem (by simpa using h)]; simp
theorem take_one {α : Type} (l : List α) (k : Nat) (h : k < l.length) : l.take k ++ [l[k]] = l.take (k + 1) := (List.take_succ_eq_append_getElem h).symm
theorem flat_take_one {α β : Type} (f : α → List β) (l : List α) (k : Nat) (h : k < l.length) : (l.take (k + 1)).flatMap f = (l.take k).flatMap f ++ f l[k] := by
  rw [List.take_succ_eq_append_getElem h, List.flatMap_append]; simp

set_option maxRecDepth 100000 in
set_option maxHeartbeats 4000000 in
theorem refs1_in (n : Nat) (hn : 1 ≤ n) (l bx nn : Nat) (w0 : World) (t : Ty) (vp vm vo : Value) (hof : TyOf w0 t vp vm vo) (hf : Fine nn t) (J Jx : List Int → World → Prop)
    (hY : ∀ (pre : List Int) (x : Int) (W : World), (0 ≤ x ∧ x < nn) → J pre W → pre.length < 66 → YieldAt Fence.wide (n - 1) Tryz.prog l #[.int .i64 x] W fun e W' =>
      (e = .returned (.bool true) ∧ J (pre ++ [x]) W' ∧ KpR w0.heap.size W W') ∨ (e = .returned (.bool false) ∧ Jx (pre ++ [x]) W'))
    (W : World) (hx : Ext w0 W) (hb : TyBox W bx t vp vm vo) (hJ : AbidesFrom W.heap.size J) (h0 : J [] W) :
    CallsIn Fence.wide n Tryz.prog 152 #[.func (.yield l) #[] #[], .pointer (some ⟨bx, 0, none⟩)] W fun e W' => (∃ v, e = .returned v) ∧
      ((∃ xs, xs = refsL t ∧ J xs W') ∨ (∃ pre, True ∧ Jx pre W')) := by
  have HJa := Lib.hid (fun (s : List Int) (W : World) (o : Obj) (h : J s W) => hJ s W (W.alloc o) none h (World.grownBy_alloc W o none) (fun r e => by cases e))
  have HY := Lib.hid hY
  have Hf := Lib.hid hf
  obtain ⟨Ap, cp, ep, hsp⟩ := hof.parts.part
  obtain ⟨Am, cm, em, hsm⟩ := hof.methods.method
  subst ep em
  have hpl := hf.parts
  have hml := hf.methods
  have Hal := Lib.hid hf.args
  have hS : (refsS t).length ≤ 1 := by unfold refsS; split <;> simp
  have Hsp := Lib.hid hsp
  have Hsm := Lib.hid hsm
  have hPl : ∀ k, (refsS t ++ (t.parts.map Part.type).take k).length < 66 := fun k => by
    rw [List.length_append, List.length_take, List.length_map]; omega
  have hMl : ∀ m (hm : m < t.methods.length) a, (refsS t ++ (t.parts.map Part.type ++ (t.methods.take m).flatMap refsM) ++ t.methods[m].args.take a).length < 66 := fun m hm a => by
    have h1 := flatMap_le refsM 7 (t.methods.take m) fun x hx => by
      have := hf.args x (List.mem_of_mem_take hx)
      unfold refsM
      rw [List.length_append]
      split <;> simp <;> omega
    have h2 := hf.args _ (List.getElem_mem hm)
    rw [List.length_take] at h1
    rw [List.length_append, List.length_append, List.length_append, List.length_take, List.length_map]
    omega
  have HPl := Lib.hid hPl
  have HMl := Lib.hid hMl
  have Hb := Lib.hid hb
  have c0 := hb.at.c0
  have c6 := hb.at.c6
  simp only [Nat.zero_add] at c0 c6
  have hs0 : refsS t = if hasSuperB t.kind then [t.super] else [] := rfl
  clear hJ hY hof hf hS hsp hsm hPl hMl hb
  refine callsIn_of_wp Tryz.func152 rfl trivial ?_ rfl
  simp only [Tryz.ntmps152, List.size_toArray, List.length_cons, List.length_nil, Nat.reduceAdd, Nat.reduceSub, Array.replicate_succ, Array.replicate_zero, List.push_toArray, List.append_toArray, List.nil_append, List.cons_append]
  cases hsup : hasSuperB t.kind
  · rw [hsup] at hs0
    simp only [Bool.false_eq_true, if_false] at hs0
    rw [← hs0] at h0
    have Hsup := Lib.hid hsup
    have Hj := Lib.hid h0
    clear hsup hs0 h0
    gi_wp2_with (refine ⟨trivial, ?_⟩; gi_at_call 63; refine (callsIn_wide.2 (hasSuper_any _ _)).mono ?_; rintro e w' ⟨rfl, rfl⟩; rw [Hsup.out])
    refine ⟨fun _ h => (by cases h), ?_⟩
    have Hx := Lib.hid hx
    have c7 := Hb.out.at.c7
    simp only [Nat.zero_add] at c7
    clear c0 c6 hx Hsup
    gi_wp2
    clear c7
    gi_loopw [22] (fun i wr => ∃ k : Nat, k ≤ t.parts.length ∧ i = .int .i64 k ∧ Hid (J (refsS t ++ (t.parts.map Part.type).take k) wr) ∧ Hid (Ext w0 wr) ∧ Hid (TyBox wr bx t (.slice Ap t.parts.length cp) (.slice Am t.methods.length cm) vo)) (fun i _ => t.parts.length - (intOf i).toNat)
    case atStart => exact ⟨0, by omega, rfl, Lib.hid (by simpa using Hj.out), Hx, Hb⟩
    case round =>
      obtain ⟨k, hk, rfl, Hjr, Hxr, Hbr⟩ := hrel
      by_cases hlt : k < t.parts.length
      · obtain ⟨b1, o1, rfl, d0, d1⟩ := Hsp.out k hlt
        replace d0 := Hxr.out.cell d0
        replace d1 := Hxr.out.cell d1
        obtain ⟨fn, tmps, assign, body, hy, hR⟩ := HY.out _ (t.parts[k]).type (wr.alloc (.cells #[.string (t.parts[k]).name, .int .i64 (t.parts[k]).type] 95)) (Hf.out.part _ (List.getElem_mem hlt)) (HJa.out _ _ _ Hjr.out) (HPl.out k)
        rw [List.append_assoc, take_map_one Part.type t.parts k hlt] at hR
        gi_wp2
        refine hR.mono ?_
        rintro e W3 (⟨rfl, hJ3, hk3⟩ | ⟨rfl, hJx3⟩)
        · have Hj3 := Lib.hid hJ3
          have Hk3 := Lib.hid hk3
          clear hJ3 hk3 d0 d1
          gi_wp2
          go_roundw
          case rel => exact ⟨k + 1, by omega, by go_num, Hj3, Hk3.out.ext (Hxr.out.alloc _), (Hbr.out.ext ((Ext.refl _).alloc _)).kp Hk3.out⟩
          case measure => simp [intOf]; omega
        · have Hj3 := Lib.hid hJx3
          clear hJx3 d0 d1
          gi_wp2
          refine bodyPost_ret (results_none rfl _ _ _) rfl ?_
          exact ⟨⟨_, rfl⟩, .inr ⟨_, trivial, Hj3.out⟩⟩
      · obtain rfl : k = t.parts.length := by omega
        have Hj1 := Lib.hid (by have h := Hjr.out; rwa [List.take_of_length_le (by simp)] at h : J (refsS t ++ t.parts.map Part.type) wr)
        have c8 := Hbr.out.at.c8
        simp only [Nat.zero_add] at c8
        clear Hjr hlt
        gi_wp2
        clear c8
        gi_loopw [35] (fun i wq => ∃ m : Nat, m ≤ t.methods.length ∧ i = .int .i64 m ∧ Hid (J (refsS t ++ (t.parts.map Part.type ++ (t.methods.take m).flatMap refsM)) wq) ∧ Hid (Ext w0 wq) ∧ Hid (TyBox wq bx t (.slice Ap t.parts.length cp) (.slice Am t.methods.length cm) vo)) (fun i _ => t.methods.length - (intOf i).toNat)
        case atStart => exact ⟨0, by omega, rfl, Lib.hid (by simpa using Hj1.out), Hxr, Hbr⟩
        case round =>
          clear Hj1 Hxr Hbr
          obtain ⟨m, hm, rfl, Hjq, Hxq, Hbq⟩ := hrel
          by_cases hlt : m < t.methods.length
          · obtain ⟨b2, o2, va, vr, rfl, hva, hvr, d0, d1, d2, d3, d4⟩ := Hsm.out m hlt
            obtain ⟨wo, rfl⟩ : ∃ wo : World, wo = wr := ⟨_, rfl⟩
            have Hflat := Lib.hid (flat_take_one refsM t.methods m hlt)
            replace d0 := Hxq.out.cell d0
            replace d1 := Hxq.out.cell d1
            replace d2 := Hxq.out.cell d2
            replace d3 := Hxq.out.cell d3
            replace d4 := Hxq.out.cell d4
            obtain ⟨Aa, ca, ea, hsa⟩ := hva.int
            obtain ⟨Av, cv, ev⟩ := hvr.len
            subst ea ev
            have Hsa := Lib.hid hsa
            have Hmb := Lib.hid (MethBox.made wo t.methods[m] (.slice Aa (t.methods[m]).args.length ca) (.slice Av (t.methods[m]).raises.length cv))
            have hal := Hal.out _ (List.getElem_mem hlt)
            have Hml := Lib.hid (HMl.out m hlt)
            have Hma := Lib.hid (Hf.out.arg _ (List.getElem_mem hlt))
            have Hmr := Lib.hid (Hf.out.result _ (List.getElem_mem hlt))
            have hmr : refsM t.methods[m] = (t.methods[m]).args ++ if 0 ≤ (t.methods[m]).result then [(t.methods[m]).result] else [] := rfl
            rw [hmr] at Hflat
            have Hjo := Lib.hid (HJa.out _ _ (.cells #[.string (t.methods[m]).name, .slice Aa (t.methods[m]).args.length ca, .int .i64 (t.methods[m]).result, .slice Av (t.methods[m]).raises.length cv, .string (t.methods[m]).proc] 74) Hjq.out)
            have Hxo := Lib.hid (Hxq.out.alloc (.cells #[.string (t.methods[m]).name, .slice Aa (t.methods[m]).args.length ca, .int .i64 (t.methods[m]).result, .slice Av (t.methods[m]).raises.length cv, .string (t.methods[m]).proc] 74))
            have Hbo := Lib.hid (Hbq.out.ext ((Ext.refl _).alloc (.cells #[.string (t.methods[m]).name, .slice Aa (t.methods[m]).args.length ca, .int .i64 (t.methods[m]).result, .slice Av (t.methods[m]).raises.length cv, .string (t.methods[m]).proc] 74)))
            generalize hM : t.methods[m] = M at *
            clear hva hvr hsa hmr Hjq Hxq Hbq HMl
            gi_wp2
            obtain ⟨b6, hb6⟩ : ∃ b6, b6 = wo.heap.size := ⟨_, rfl⟩
            rw [← hb6] at Hmb ⊢
            clear hb6 d0 d1 d2 d3 d4
            gi_loopw [43] (fun i wq => ∃ q : Nat, q ≤ M.args.length ∧ i = .int .i64 q ∧ Hid (J (refsS t ++ (t.parts.map Part.type ++ (t.methods.take m).flatMap refsM) ++ M.args.take q) wq) ∧ Hid (Ext w0 wq) ∧ Hid (TyBox wq bx t (.slice Ap t.parts.length cp) (.slice (some ⟨b2, o2, none⟩) t.methods.length cm) vo) ∧ Hid (MethBox wq b6 M (.slice Aa M.args.length ca) (.slice Av M.raises.length cv))) (fun i _ => M.args.length - (intOf i).toNat)
            case atStart => exact ⟨0, by omega, rfl, Lib.hid (by simpa using Hjo.out), Hxo, Hbo, Hmb⟩
            case round =>
              clear Hjo Hxo Hbo Hmb
              obtain ⟨q, hq, rfl, Hji, Hxi, Hbi, Hmi⟩ := hrel
              by_cases hla : q < M.args.length
              · obtain ⟨b3, o3, rfl, d0⟩ := Hsa.out q hla
                replace d0 := Hxi.out.cell d0
                obtain ⟨fn, tmps, assign, body, hy, hR⟩ := HY.out _ M.args[q] wr (Hma.out _ (List.getElem_mem hla)) Hji.out (Hml.out q)
                rw [List.append_assoc, take_one M.args q hla] at hR
                gi_wp2
                refine hR.mono ?_
                rintro e W3 (⟨rfl, hJ3, hk3⟩ | ⟨rfl, hJx3⟩)
                · have Hj3 := Lib.hid hJ3
                  have Hk3 := Lib.hid hk3
                  clear hJ3 hk3 d0
                  gi_wp2
                  go_roundw
                  case rel => exact ⟨q + 1, by omega, by go_num, Hj3, Hk3.out.ext Hxi.out, Hbi.out.kp Hk3.out, Hmi.out.kp Hk3.out⟩
                  case measure => simp [intOf]; omega
                · have Hj3 := Lib.hid hJx3
                  clear hJx3 d0
                  gi_wp2
                  refine bodyPost_ret (results_none rfl _ _ _) rfl ?_
                  exact ⟨⟨_, rfl⟩, .inr ⟨_, trivial, Hj3.out⟩⟩
              · obtain rfl : q = M.args.length := by omega
                have Hj2 := Lib.hid (by have h := Hji.out; rwa [List.take_length] at h : J (refsS t ++ (t.parts.map Part.type ++ (t.methods.take m).flatMap refsM) ++ M.args) wr)
                have m2 := heap_cell Hmi.out 2 _ rfl
                by_cases hr0 : 0 ≤ M.result
                · rw [if_pos hr0] at Hflat
                  obtain ⟨fn, tmps, assign, body, hy, hR⟩ := HY.out _ M.result wr (Hmr.out.elim (fun e => by omega) id) Hj2.out (by have := Hml.out M.args.length; rwa [List.take_length] at this)
                  rw [List.append_assoc, List.append_assoc, List.append_assoc, ← Hflat.out] at hR
                  clear hla Hji
                  gi_wp2
                  refine hR.mono ?_
                  rintro e W3 (⟨rfl, hJ3, hk3⟩ | ⟨rfl, hJx3⟩)
                  · have Hj3 := Lib.hid hJ3
                    have Hk3 := Lib.hid hk3
                    clear hJ3 hk3 m2
                    gi_wp2
                    go_roundw
                    case rel => exact ⟨m + 1, by omega, by go_num, Hj3, Hk3.out.ext Hxi.out, Hbi.out.kp Hk3.out⟩
                    case measure => simp [intOf]; omega
                  · have Hj3 := Lib.hid hJx3
                    clear hJx3 m2
                    gi_wp2
                    refine bodyPost_ret (results_none rfl _ _ _) rfl ?_
                    exact ⟨⟨_, rfl⟩, .inr ⟨_, trivial, Hj3.out⟩⟩
                · rw [if_neg hr0, List.append_nil] at Hflat
                  have hr1 : decide (0 ≤ M.result) = false := by simpa using hr0
                  have Hj3 := Lib.hid (by have h := Hj2.out; rwa [List.append_assoc, List.append_assoc, ← Hflat.out] at h : J (refsS t ++ (t.parts.map Part.type ++ (t.methods.take (m + 1)).flatMap refsM)) wr)
                  clear hla Hji
                  gi_wp2
                  refine ⟨fun _ h => (by cases h), ?_⟩
                  gi_wp2
                  go_roundw
                  case rel => exact ⟨m + 1, by omega, by go_num, Hj3, Hxi, Hbi⟩
                  case measure => simp [intOf]; omega
          · obtain rfl : m = t.methods.length := by omega
            have Hj2 := Lib.hid (by have h := Hjq.out; rwa [List.take_length] at h : J (refsL t) wr)
            gi_wp2
            go_end0
            exact ⟨⟨_, rfl⟩, .inl ⟨_, rfl, Hj2.out⟩⟩
  · rw [hsup] at hs0
    simp only [if_true] at hs0
    have Hsup := Lib.hid hsup
    obtain ⟨fn, tmps, assign, body, hy, hR⟩ := HY.out [] t.super W (Hf.out.super hsup) h0 (by simp)
    rw [List.nil_append, ← hs0] at hR
    clear hsup hs0 h0
    gi_wp2_with (refine ⟨trivial, ?_⟩; gi_at_call 63; refine (callsIn_wide.2 (hasSuper_any _ _)).mono ?_; rintro e w' ⟨rfl, rfl⟩; rw [Hsup.out])
    refine hR.mono ?_
    rintro e W3 (⟨rfl, hJ3, hk3⟩ | ⟨rfl, hJx3⟩)
    · have Hj := Lib.hid hJ3
      have Hx := Lib.hid (hk3.ext hx)
      replace Hb := Lib.hid (Hb.out.kp hk3)
      have c7 := Hb.out.at.c7
      simp only [Nat.zero_add] at c7
      clear c0 c6 hx Hsup hJ3 hk3 hR
      gi_wp2
      clear c7
      gi_loopw [22] (fun i wr => ∃ k : Nat, k ≤ t.parts.length ∧ i = .int .i64 k ∧ Hid (J (refsS t ++ (t.parts.map Part.type).take k) wr) ∧ Hid (Ext w0 wr) ∧ Hid (TyBox wr bx t (.slice Ap t.parts.length cp) (.slice Am t.methods.length cm) vo)) (fun i _ => t.parts.length - (intOf i).toNat)
      case atStart => exact ⟨0, by omega, rfl, Lib.hid (by simpa using Hj.out), Hx, Hb⟩
      case round =>
        obtain ⟨k, hk, rfl, Hjr, Hxr, Hbr⟩ := hrel
        by_cases hlt : k < t.parts.length
        · obtain ⟨b1, o1, rfl, d0, d1⟩ := Hsp.out k hlt
          replace d0 := Hxr.out.cell d0
          replace d1 := Hxr.out.cell d1
          obtain ⟨fn, tmps, assign, body, hy, hR⟩ := HY.out _ (t.parts[k]).type (wr.alloc (.cells #[.string (t.parts[k]).name, .int .i64 (t.parts[k]).type] 95)) (Hf.out.part _ (List.getElem_mem hlt)) (HJa.out _ _ _ Hjr.out) (HPl.out k)
          rw [List.append_assoc, take_map_one Part.type t.parts k hlt] at hR
          gi_wp2
          refine hR.mono ?_
          rintro e W3 (⟨rfl, hJ3, hk3⟩ | ⟨rfl, hJx3⟩)
          · have Hj3 := Lib.hid hJ3
            have Hk3 := Lib.hid hk3
            clear hJ3 hk3 d0 d1
            gi_wp2
            go_roundw
            case rel => exact ⟨k + 1, by omega, by go_num, Hj3, Hk3.out.ext (Hxr.out.alloc _), (Hbr.out.ext ((Ext.refl _).alloc _)).kp Hk3.out⟩
            case measure => simp [intOf]; omega
          · have Hj3 := Lib.hid hJx3
            clear hJx3 d0 d1
            gi_wp2
            refine bodyPost_ret (results_none rfl _ _ _) rfl ?_
            exact ⟨⟨_, rfl⟩, .inr ⟨_, trivial, Hj3.out⟩⟩
        · obtain rfl : k = t.parts.length := by omega
          have Hj1 := Lib.hid (by have h := Hjr.out; rwa [List.take_of_length_le (by simp)] at h : J (refsS t ++ t.parts.map Part.type) wr)
          have c8 := Hbr.out.at.c8
          simp only [Nat.zero_add] at c8
          clear Hjr hlt
          gi_wp2
          clear c8
          gi_loopw [35] (fun i wq => ∃ m : Nat, m ≤ t.methods.length ∧ i = .int .i64 m ∧ Hid (J (refsS t ++ (t.parts.map Part.type ++ (t.methods.take m).flatMap refsM)) wq) ∧ Hid (Ext w0 wq) ∧ Hid (TyBox wq bx t (.slice Ap t.parts.length cp) (.slice Am t.methods.length cm) vo)) (fun i _ => t.methods.length - (intOf i).toNat)
          case atStart => exact ⟨0, by omega, rfl, Lib.hid (by simpa using Hj1.out), Hxr, Hbr⟩
          case round =>
            clear Hj1 Hxr Hbr
            obtain ⟨m, hm, rfl, Hjq, Hxq, Hbq⟩ := hrel
            by_cases hlt : m < t.methods.length
            · obtain ⟨b2, o2, va, vr, rfl, hva, hvr, d0, d1, d2, d3, d4⟩ := Hsm.out m hlt
              obtain ⟨wo, rfl⟩ : ∃ wo : World, wo = wr := ⟨_, rfl⟩
              have Hflat := Lib.hid (flat_take_one refsM t.methods m hlt)
              replace d0 := Hxq.out.cell d0
              replace d1 := Hxq.out.cell d1
              replace d2 := Hxq.out.cell d2
              replace d3 := Hxq.out.cell d3
              replace d4 := Hxq.out.cell d4
              obtain ⟨Aa, ca, ea, hsa⟩ := hva.int
              obtain ⟨Av, cv, ev⟩ := hvr.len
              subst ea ev
              have Hsa := Lib.hid hsa
              have Hmb := Lib.hid (MethBox.made wo t.methods[m] (.slice Aa (t.methods[m]).args.length ca) (.slice Av (t.methods[m]).raises.length cv))
              have hal := Hal.out _ (List.getElem_mem hlt)
              have Hml := Lib.hid (HMl.out m hlt)
              have Hma := Lib.hid (Hf.out.arg _ (List.getElem_mem hlt))
              have Hmr := Lib.hid (Hf.out.result _ (List.getElem_mem hlt))
              have hmr : refsM t.methods[m] = (t.methods[m]).args ++ if 0 ≤ (t.methods[m]).result then [(t.methods[m]).result] else [] := rfl
              rw [hmr] at Hflat
              have Hjo := Lib.hid (HJa.out _ _ (.cells #[.string (t.methods[m]).name, .slice Aa (t.methods[m]).args.length ca, .int .i64 (t.methods[m]).result, .slice Av (t.methods[m]).raises.length cv, .string (t.methods[m]).proc] 74) Hjq.out)
              have Hxo := Lib.hid (Hxq.out.alloc (.cells #[.string (t.methods[m]).name, .slice Aa (t.methods[m]).args.length ca, .int .i64 (t.methods[m]).result, .slice Av (t.methods[m]).raises.length cv, .string (t.methods[m]).proc] 74))
              have Hbo := Lib.hid (Hbq.out.ext ((Ext.refl _).alloc (.cells #[.string (t.methods[m]).name, .slice Aa (t.methods[m]).args.length ca, .int .i64 (t.methods[m]).result, .slice Av (t.methods[m]).raises.length cv, .string (t.methods[m]).proc] 74)))
              generalize hM : t.methods[m] = M at *
              clear hva hvr hsa hmr Hjq Hxq Hbq HMl
              gi_wp2
              obtain ⟨b6, hb6⟩ : ∃ b6, b6 = wo.heap.size := ⟨_, rfl⟩
              rw [← hb6] at Hmb ⊢
              clear hb6 d0 d1 d2 d3 d4
              gi_loopw [43] (fun i wq => ∃ q : Nat, q ≤ M.args.length ∧ i = .int .i64 q ∧ Hid (J (refsS t ++ (t.parts.map Part.type ++ (t.methods.take m).flatMap refsM) ++ M.args.take q) wq) ∧ Hid (Ext w0 wq) ∧ Hid (TyBox wq bx t (.slice Ap t.parts.length cp) (.slice (some ⟨b2, o2, none⟩) t.methods.length cm) vo) ∧ Hid (MethBox wq b6 M (.slice Aa M.args.length ca) (.slice Av M.raises.length cv))) (fun i _ => M.args.length - (intOf i).toNat)
              case atStart => exact ⟨0, by omega, rfl, Lib.hid (by simpa using Hjo.out), Hxo, Hbo, Hmb⟩
              case round =>
                clear Hjo Hxo Hbo Hmb
                obtain ⟨q, hq, rfl, Hji, Hxi, Hbi, Hmi⟩ := hrel
                by_cases hla : q < M.args.length
                · obtain ⟨b3, o3, rfl, d0⟩ := Hsa.out q hla
                  replace d0 := Hxi.out.cell d0
                  obtain ⟨fn, tmps, assign, body, hy, hR⟩ := HY.out _ M.args[q] wr (Hma.out _ (List.getElem_mem hla)) Hji.out (Hml.out q)
                  rw [List.append_assoc, take_one M.args q hla] at hR
                  gi_wp2
                  refine hR.mono ?_
                  rintro e W3 (⟨rfl, hJ3, hk3⟩ | ⟨rfl, hJx3⟩)
                  · have Hj3 := Lib.hid hJ3
                    have Hk3 := Lib.hid hk3
                    clear hJ3 hk3 d0
                    gi_wp2
                    go_roundw
                    case rel => exact ⟨q + 1, by omega, by go_num, Hj3, Hk3.out.ext Hxi.out, Hbi.out.kp Hk3.out, Hmi.out.kp Hk3.out⟩
                    case measure => simp [intOf]; omega
                  · have Hj3 := Lib.hid hJx3
                    clear hJx3 d0
                    gi_wp2
                    refine bodyPost_ret (results_none rfl _ _ _) rfl ?_
                    exact ⟨⟨_, rfl⟩, .inr ⟨_, trivial, Hj3.out⟩⟩
                · obtain rfl : q = M.args.length := by omega
                  have Hj2 := Lib.hid (by have h := Hji.out; rwa [List.take_length] at h : J (refsS t ++ (t.parts.map Part.type ++ (t.methods.take m).flatMap refsM) ++ M.args) wr)
                  have m2 := heap_cell Hmi.out 2 _ rfl
                  by_cases hr0 : 0 ≤ M.result
                  · rw [if_pos hr0] at Hflat
                    obtain ⟨fn, tmps, assign, body, hy, hR⟩ := HY.out _ M.result wr (Hmr.out.elim (fun e => by omega) id) Hj2.out (by have := Hml.out M.args.length; rwa [List.take_length] at this)
                    rw [List.append_assoc, List.append_assoc, List.append_assoc, ← Hflat.out] at hR
                    clear hla Hji
                    gi_wp2
                    refine hR.mono ?_
                    rintro e W3 (⟨rfl, hJ3, hk3⟩ | ⟨rfl, hJx3⟩)
                    · have Hj3 := Lib.hid hJ3
                      have Hk3 := Lib.hid hk3
                      clear hJ3 hk3 m2
                      gi_wp2
                      go_roundw
                      case rel => exact ⟨m + 1, by omega, by go_num, Hj3, Hk3.out.ext Hxi.out, Hbi.out.kp Hk3.out⟩
                      case measure => simp [intOf]; omega
                    · have Hj3 := Lib.hid hJx3
                      clear hJx3 m2
                      gi_wp2
                      refine bodyPost_ret (results_none rfl _ _ _) rfl ?_
                      exact ⟨⟨_, rfl⟩, .inr ⟨_, trivial, Hj3.out⟩⟩
                  · rw [if_neg hr0, List.append_nil] at Hflat
                    have hr1 : decide (0 ≤ M.result) = false := by simpa using hr0
                    have Hj3 := Lib.hid (by have h := Hj2.out; rwa [List.append_assoc, List.append_assoc, ← Hflat.out] at h : J (refsS t ++ (t.parts.map Part.type ++ (t.methods.take (m + 1)).flatMap refsM)) wr)
                    clear hla Hji
                    gi_wp2
                    refine ⟨fun _ h => (by cases h), ?_⟩
                    gi_wp2
                    go_roundw
                    case rel => exact ⟨m + 1, by omega, by go_num, Hj3, Hxi, Hbi⟩
                    case measure => simp [intOf]; omega
            · obtain rfl : m = t.methods.length := by omega
              have Hj2 := Lib.hid (by have h := Hjq.out; rwa [List.take_length] at h : J (refsL t) wr)
              gi_wp2
              go_end0
              exact ⟨⟨_, rfl⟩, .inl ⟨_, rfl, Hj2.out⟩⟩
    · have Hj3 := Lib.hid hJx3
      clear hJx3
      gi_wp2
      refine bodyPost_ret (results_none rfl _ _ _) rfl ?_
      exact ⟨⟨_, rfl⟩, .inr ⟨_, trivial, Hj3.out⟩⟩
end Go.Proofs.YtldnjnnhfeobdaaGreatDoor
/- Contracts: refs, slices.AppendSeq, slices.Collect, list. Conditions: the type is right. -/
namespace Go.Proofs.YtldnjnnhfeobdaaGreatDoor
set_option linter.all false
set_option linter.unusedSimpArgs false
set_option linter.unusedVariables false
open Go.RowKit Go.Shelf
attribute [local go_sem] Oper.semAt_some

/-- a function value that yields xs, made in w -/
def GivesR (w : World) (n₀ g bx : Nat) (xs : List Int) : Prop :=
  Enters Tryz.prog g ∧ ∀ n, 1 ≤ n → SeqStopsK Fence.wide n Tryz.prog g #[.pointer (some ⟨bx, 0, none⟩)] (fun x : Int => #[Value.int .i64 x]) (KpR n₀) (fun ys => ys = xs) (fun _ => True) 66 w
theorem refs_gives {w0 w : World} {bx nn : Nat} {t : Ty} {vp vm vo : Value} (hx : Ext w0 w) (hof : TyOf w0 t vp vm vo) (hf : Fine nn t) (hb : TyBox w bx t vp vm vo) : GivesR w w0.heap.size 152 bx (refsL t) :=
  ⟨enters_of Tryz.func152 (by kernel_rfl) rfl, fun n hn l J Jx W hW hJ hJx hY h0 => refs1_in n hn l bx nn w0 t vp vm vo hof hf J Jx (fun pre x W _ => hY pre x W) W (hx.trans hW) (hb.ext hW) hJ h0⟩

/-- a function value that yields xs, all of them numbers below nn -/
abbrev Bel (nn : Nat) := { x : Int // 0 ≤ x ∧ x < nn }
def GivesN (w : World) (n₀ g bx nn : Nat) (xs : List Int) : Prop :=
  Enters Tryz.prog g ∧ ∀ n, 1 ≤ n → SeqStopsK Fence.wide n Tryz.prog g #[.pointer (some ⟨bx, 0, none⟩)] (fun x : Bel nn => #[Value.int .i64 x.1]) (KpR n₀) (fun ys => ys.map (·.1) = xs) (fun _ => True) 66 w
theorem refs_givesN {w0 w : World} {bx nn : Nat} {t : Ty} {vp vm vo : Value} (hx : Ext w0 w) (hof : TyOf w0 t vp vm vo) (hf : Fine nn t) (hb : TyBox w bx t vp vm vo) : GivesN w w0.heap.size 152 bx nn (refsL t) :=
  ⟨enters_of Tryz.func152 (by kernel_rfl) rfl, fun n hn l J Jx W hW hJ hJx hY h0 => by
    have key := refs1_in n hn l bx nn w0 t vp vm vo hof hf (fun pre W => ∃ pre' : List (Bel nn), pre'.map (·.1) = pre ∧ J pre' W) (fun pre W => ∃ pre' : List (Bel nn), pre'.map (·.1) = pre ∧ Jx pre' W)
      (fun pre x W hx ⟨pre', e, h⟩ hl => (hY pre' ⟨x, hx⟩ W h (by rw [← e] at hl; simpa using hl)).mono fun e' W' h' => h'.imp (fun ⟨a, b, c⟩ => ⟨a, ⟨pre' ++ [⟨x, hx⟩], by simp [e], b⟩, c⟩) (fun ⟨a, b⟩ => ⟨a, ⟨pre' ++ [⟨x, hx⟩], by simp [e], b⟩⟩))
      W (hx.trans hW) (hb.ext hW) (fun s X Y row ⟨pre', e, h⟩ hg hr => ⟨pre', e, hJ pre' X Y row h hg hr⟩) ⟨[], rfl, h0⟩
    refine key.mono fun e W' ⟨hv, h⟩ => ⟨hv, h.imp (fun ⟨xs, e, ys, e2, h⟩ => ⟨ys, e2.trans e, h⟩) (fun ⟨pre, _, ys, _, h⟩ => ⟨ys, trivial, h⟩)⟩⟩
/-- what refs hands back -/
def RefsPost (w : World) (t : Ty) (e : Ending) (w' : World) : Prop :=
  ∃ bx vp vm vo, e = .returned (.func (.func 152) #[] #[.pointer (some ⟨bx, 0, none⟩)]) ∧ TyBox w' bx t vp vm vo ∧ TyOf w t vp vm vo ∧ Ext w w' ∧ w.heap.size ≤ bx
set_option maxRecDepth 100000 in
set_option maxHeartbeats 1000000 in
theorem refs_any (w : World) (gv : Value) (g : Graph) (i : Nat) (hg : Sl tyE w gv g) (hi : i < g.length) (hn : g.length ≤ 1048576) :
    Calls Tryz.prog 108 #[.agg #[gv], .int .i64 i] w (RefsPost w (getT g i)) := by
  obtain ⟨A, cap, rfl, hs⟩ := hg.ty
  obtain ⟨b, off, vp, vm, vo, rfl, hat, hof⟩ := hs i hi
  have hof' := hof
  obtain ⟨A1, c1, e1⟩ := hof.parts.len
  obtain ⟨A2, c2, e2⟩ := hof.methods.len
  obtain ⟨A3, c3, e3⟩ := hof.overs.len
  subst e1 e2 e3
  rw [getT_lt hi]
  have Hof := Lib.hid hof
  generalize g[i] = t at *
  obtain ⟨d0, d1, d2, d3, d4, d5, d6, d7, d8, d9⟩ := hat
  have hlt := cell_lt d0
  have hi0 : (0 : Int) ≤ (i : Int) := by omega
  have hi1 : (i : Int) < (g.length : Int) := by omega
  clear hs hg hof hof'
  go_enter Tryz.func108, Tryz.ntmps108
  go_wp2_with fail
  go_ret
  have hbox := World.alloc_heap_new (w.alloc (.cells #[.slice (some ⟨b, off, none⟩) g.length cap] 77)) (.cells #[.int .u8 t.kind, .int .i64 t.low, .int .i64 t.high, .bool t.branded, .string t.brand, .string t.opaq, .int .i64 t.super, .slice A1 t.parts.length c1, .slice A2 t.methods.length c2, .slice A3 t.overs.length c3] 42)
  rw [World.size_alloc] at hbox
  exact ⟨_, _, _, _, rfl, hbox, Hof.out, ((Ext.refl _).alloc _).alloc _, by simp⟩

/-- .. where the type lies since w0 -/
def RefsPost2 (w0 w : World) (t : Ty) (e : Ending) (w' : World) : Prop :=
  ∃ bx vp vm vo, e = .returned (.func (.func 152) #[] #[.pointer (some ⟨bx, 0, none⟩)]) ∧ TyBox w' bx t vp vm vo ∧ TyOf w0 t vp vm vo ∧ Ext w w' ∧ w.heap.size ≤ bx
set_option maxRecDepth 100000 in
set_option maxHeartbeats 1000000 in
theorem refs_any2 (w0 w : World) (gv : Value) (g : Graph) (i : Nat) (hx0 : Ext w0 w) (hg : Sl tyE w0 gv g) (hi : i < g.length) (hn : g.length ≤ 1048576) :
    Calls Tryz.prog 108 #[.agg #[gv], .int .i64 i] w (RefsPost2 w0 w (getT g i)) := by
  obtain ⟨A, cap, rfl, hs⟩ := hg.ty
  obtain ⟨b, off, vp, vm, vo, rfl, hat, hof⟩ := hs i hi
  have hof' := hof
  obtain ⟨A1, c1, e1⟩ := hof.parts.len
  obtain ⟨A2, c2, e2⟩ := hof.methods.len
  obtain ⟨A3, c3, e3⟩ := hof.overs.len
  subst e1 e2 e3
  rw [getT_lt hi]
  have Hof := Lib.hid hof
  generalize g[i] = t at *
  obtain ⟨d0, d1, d2, d3, d4, d5, d6, d7, d8, d9⟩ := hat.mono hx0
  have hlt := cell_lt d0
  have hi0 : (0 : Int) ≤ (i : Int) := by omega
  have hi1 : (i : Int) < (g.length : Int) := by omega
  clear hs hg hof hof'
  go_enter Tryz.func108, Tryz.ntmps108
  go_wp2_with fail
  go_ret
  have hbox := World.alloc_heap_new (w.alloc (.cells #[.slice (some ⟨b, off, none⟩) g.length cap] 77)) (.cells #[.int .u8 t.kind, .int .i64 t.low, .int .i64 t.high, .bool t.branded, .string t.brand, .string t.opaq, .int .i64 t.super, .slice A1 t.parts.length c1, .slice A2 t.methods.length c2, .slice A3 t.overs.length c3] 42)
  rw [World.size_alloc] at hbox
  exact ⟨_, _, _, _, rfl, hbox, Hof.out, ((Ext.refl _).alloc _).alloc _, by simp⟩

theorem infoI : (Tryz.prog.info? 3).map (fun i => (i.zero, i.size, i.bytes)) = some (some (.int .i64 0), 1, 8) := by kernel_rfl
/-- behind 'out = append(out, x)' types and methods in boxes lie as they lay -/
theorem kp_appended {W w1 : World} {n₀ B : Nat} {v v' : Value} {k m : Nat} {xs ys : List Value} {tmp : Obj}
    (hv : Boxed W B 24 v) (hrow : W.ownsRow n₀ 3 1 v k xs) (hn₀ : n₀ ≤ W.heap.size) (hB : n₀ ≤ B)
    (hown' : w1.ownsRow n₀ 3 1 v' m ys) (hgrow : (W.alloc tmp).grownBy w1 v.ownBlock) : KpR n₀ W (w1.setCell ⟨B, 0, none⟩ v') := by
  refine ⟨(hv.appended (by decide) hrow hn₀ hB hown' hgrow).2.2.2.2, fun b c ty f ht hb => ?_⟩
  have hlt : b < W.heap.size := (Array.getElem?_eq_some_iff.1 hb).1
  have h1 : b ≠ B := by
    rintro rfl
    have := (show W.heap[b]? = _ from hv).symm.trans hb
    rcases ht with rfl | rfl <;> simp at this
  rw [Below.heap_setCell _ _ _ _ h1, hgrow.block b (by simp; omega) ?_, Below.heap_alloc _ _ _ hlt]
  · exact hb
  · rcases hrow.2 with ⟨rfl, _⟩ | ⟨g, cap, cur, rfl, _, hgb, _⟩
    · simp [Value.ownBlock]
    · intro e
      obtain rfl : b = g := by simpa [Value.ownBlock] using e
      have := hgb.symm.trans hb
      rcases ht with rfl | rfl <;> simp at this

set_option maxRecDepth 100000 in
set_option maxHeartbeats 2000000 in
theorem appendSeq_in (n : Nat) (hn : 3 ≤ n) (w : World) (n₀ g bx : Nat) (xs : List Int) (hn₀ : n₀ ≤ w.heap.size) (hg : GivesR w n₀ g bx xs) :
    CallsIn Fence.wide n Tryz.prog 151 #[.slice none 0 0, .func (.func g) #[] #[.pointer (some ⟨bx, 0, none⟩)]] w fun e W' => ∃ v, e = .returned v ∧ W'.ownsRow w.heap.size 3 1 v xs.length (xs.map (Value.int .i64)) ∧ Below w.heap.size w W' := by
  have h1 : 1 ≤ n := by omega
  obtain ⟨i0, hi, hz0, hz1, hz2⟩ := info_parts infoI
  obtain ⟨eg, hseq⟩ := hg
  have Hseq := Lib.hid (hseq (n - 1) (by omega))
  have eg' : ∀ args w, (callFunc g args).run Tryz.prog w = .ok (.enter g args) w := eg
  clear hseq eg
  refine callsIn_of_wp_marks Tryz.func151 rfl trivial ?_ rfl
  simp only [Tryz.ntmps151, List.size_toArray, List.length_cons, List.length_nil, Nat.reduceAdd, Nat.reduceSub, Array.replicate_succ, Array.replicate_zero, List.push_toArray, List.append_toArray, List.nil_append, List.cons_append]
  gi_wp2
  have bO := Boxed.new w 24 (.slice none 0 0)
  have hB0 : Below w.heap.size w (w.alloc (.cells #[.slice none 0 0] 24)) := (Below.refl _ w).alloc (Nat.le_refl _) _
  refine wpIn_rangeFunc_ownG rfl h1 (gf := g) (lb := #[.pointer (some ⟨bx, 0, none⟩)]) rfl trivial eg' (w0 := w)
    Hseq.out KpR.trans (KpR.book (by simp; omega)) hB0 (fun _ => rfl)
    (fun pre W => (∃ v, Boxed W w.heap.size 24 v ∧ W.ownsRow w.heap.size 3 1 v pre.length (pre.map (Value.int .i64)) ∧ True) ∧ Below w.heap.size w W)
    (fun _ _ _ => False)
    (OwnFrom.and (Own.from (holdsRow_own w.heap.size w.heap.size 24 3 1 (fun pre : List Int => pre.length) (fun pre => pre.map (Value.int .i64)) (fun pre v => True)) _) (ownFrom_below (Nat.le_refl _) (by simp)))
    (fun _ _ _ _ _ hs _ _ => hs)
    ⟨⟨_, bO, World.ownsRow_nil _ _ _ _, trivial⟩, hB0⟩
    (fun x => { tmps := #[.slice none 0 0, .func (.func g) #[] #[.pointer (some ⟨bx, 0, none⟩)], .pointer (some ⟨w.heap.size, 0, none⟩), undef, .slice none 0 0, .int .i64 x, .func (.func g) #[] #[.pointer (some ⟨bx, 0, none⟩)], .int .i64 x, undef, undef, undef, undef, undef], defers := [] }) ?assign ?body ?done ?stop
  case assign =>
    intro l x W K hK
    gi_wp2
    exact hK
  case body =>
    rintro l pre x W ⟨⟨v, hv, hrow, _⟩, hB⟩ hlt
    have hc := hv.cell
    gi_wp2_with (gi_at_builtin; refine wpListIn_append_own _ rfl _ _ 24 rfl w.heap.size 3 i0 (.int .i64 0) 1 8 Tryz.underlying24 hi hz0 hz1 hz2 rfl (by decide) _ _ _ rfl (hrow.alloc _) ⟨W.heap.size, 0, none⟩ 1 1 [.int .i64 x] rfl rfl (cell_one_new _ _ _) (by simp [Value.oneCell']) (by simp only [maxLen]; omega) (by omega) (by have := hB.size; simp; omega) ?_; intro v' w1 hown' hgrow _; obtain ⟨g', cap', rfl⟩ := ownsRow_succ hown'; obtain ⟨hv1, hv2, hr2, hk2, hb2⟩ := hv.appended (by decide) hrow hB.size (Nat.le_refl _) hown' hgrow; have hkp := Lib.hid (kp_appended hv hrow hB.size (Nat.le_refl _) hown' hgrow); have hc1 := hv1.cell; have hf1 := hv1.frozen)
    exact ⟨hk2.from _, ⟨hb2.mono hn₀, hkp.out.2⟩, ⟨_, hv2, by simpa using hr2, trivial⟩, hB.trans hb2⟩
  case done =>
    rintro D ys W hD rfl ⟨⟨v, hv, hrow, _⟩, hB⟩ hK
    have hc := hv.cell
    gi_wp2
    refine ⟨by simp, .inl ⟨_, _, rfl, run_takeDeferred hK, ?_⟩⟩
    exact ⟨_, results_tmp rfl _ _ _, v, rfl, ownsRow_putObj hrow _ hK rfl, hB.trans (belowK_b (w := w) (Nat.le_refl _) W D _ _ (by simp at hD; omega) hK rfl rfl)⟩
  case stop =>
    rintro D c pre W _ _ h _
    exact h.elim

set_option maxRecDepth 100000 in
theorem collect_in (n : Nat) (hn : 4 ≤ n) (w : World) (n₀ g bx : Nat) (xs : List Int) (hn₀ : n₀ ≤ w.heap.size) (hg : GivesR w n₀ g bx xs) :
    CallsIn Fence.wide n Tryz.prog 107 #[.func (.func g) #[] #[.pointer (some ⟨bx, 0, none⟩)]] w fun e W' => ∃ v, e = .returned v ∧ W'.ownsRow w.heap.size 3 1 v xs.length (xs.map (Value.int .i64)) ∧ Below w.heap.size w W' := by
  have Hc := Lib.hid (appendSeq_in (n - 1) (by omega) w n₀ g bx xs hn₀ hg)
  have h1 : 1 ≤ n := by omega
  clear hg
  refine callsIn_of_wp Tryz.func107 rfl trivial ?_ rfl
  simp only [Tryz.ntmps107, List.size_toArray, List.length_cons, List.length_nil, Nat.reduceAdd, Nat.reduceSub, Array.replicate_succ, Array.replicate_zero, List.push_toArray, List.append_toArray, List.nil_append, List.cons_append]
  gi_wp2_with (refine ⟨trivial, ?_⟩; gi_at_call 151; refine Hc.out.mono ?_; rintro e w' ⟨v, rfl, hrow, hb⟩)
  go_ret
  exact ⟨v, rfl, hrow, hb⟩

theorem ownsRow_sl {w w' : World} {v : Value} {xs : List Int} (h : w'.ownsRow w.heap.size 3 1 v xs.length (xs.map (Value.int .i64))) : SlF (New w) intE w' v xs := by
  rcases h.2 with ⟨rfl, h0⟩ | ⟨g, cap, cur, rfl, hg, hb, hle, _, _, hc⟩
  · have : xs = [] := List.eq_nil_of_length_eq_zero h0
    subst this
    exact SlF.nil _ _ _
  · refine ⟨_, cap, rfl, fun i x hi => ⟨g, 0, [.int .i64 x], rfl, ⟨hg, hle⟩, rfl, fun j u hj => ?_⟩⟩
    have hlt : i < xs.length := (List.getElem?_eq_some_iff.1 hi).1
    cases j with
    | succ j => simp at hj
    | zero =>
      simp at hj
      subst hj
      have h1 : (cur.toList.take (xs.length * 1))[i]? = some (.int .i64 x) := by rw [hc]; simp [hi]
      rw [List.getElem?_take_of_lt (by omega)] at h1
      simp only [World.cell?, intE, Nat.mul_one, Nat.zero_add, Nat.add_zero, hb]
      simpa using h1

/-- a fresh slice of ints -/
def ResSl {α : Type} (E : Elt α) (w : World) (xs : List α) (w' : World) (v : Value) : Prop := SlF (New w) E w' v xs
set_option maxRecDepth 100000 in
set_option maxHeartbeats 1000000 in
theorem list_any (w : World) (gv : Value) (g : Graph) (i nn : Nat) (hg : Sl tyE w gv g) (hi : i < g.length) (hn : g.length ≤ 1048576) (hf : Fine nn (getT g i)) :
    Calls Tryz.prog 56 #[.agg #[gv], .int .i64 i] w (RetP w (ResSl intE w (refsL (getT g i)))) := by
  have hx0 := (Ext.refl w).alloc (.cells #[gv] 77)
  have hr := fun w' (hx : Ext w w') => refs_any w' gv g i (hg.mono hx) hi hn
  have hc := fun (w1 w2 : World) (bx : Nat) vp vm vo (h1 : TyBox w2 bx (getT g i) vp vm vo) (h2 : TyOf w1 (getT g i) vp vm vo) (h3 : Ext w1 w2) => (callsIn_wide (n := 6)).1 (collect_in 6 (by omega) w2 w1.heap.size 152 bx (refsL (getT g i)) h3.size (refs_gives h3 h2 hf h1))
  have Hr := Lib.hid hr
  have Hc := Lib.hid hc
  generalize getT g i = t at *
  obtain ⟨A, cap, rfl⟩ := hg.len
  clear hr hc hg hf
  go_enter Tryz.func56, Tryz.ntmps56
  go_wp2_with fail
  refine (Hr.out _ hx0).mono ?_
  rintro e w1 ⟨bx, vp, vm, vo, rfl, h1, h2, h3, h4⟩
  have h3' := Lib.hid h3
  go_wp2_with fail
  refine (Hc.out _ _ _ _ _ _ h1 h2 h3).mono ?_
  rintro e w2 ⟨v, rfl, hrow, hb⟩
  have hx2 : Ext w w2 := (hx0.trans h3).trans hb
  obtain ⟨A3, c3, e3⟩ := (ownsRow_sl hrow).any.len
  subst e3
  have Hrow := Lib.hid hrow
  clear hrow h1 h2 h3 hx0
  go_wp2_with fail
  go_ret
  exact ⟨_, rfl, SlF.mono (ownsRow_sl Hrow.out) (fun _ _ _ => rfl) (fun b hb' _ => by have h5 := h3'.out.size; simp at h5; unfold New at hb' ⊢; omega), hx2⟩
end Go.Proofs.YtldnjnnhfeobdaaGreatDoor
/- Regions that draw their order, inside a round of a range over a function: what serves outside serves inside. No condition. -/
namespace Go.Proofs.YtldnjnnhfeobdaaGreatDoor
set_option linter.all false
set_option linter.unusedSimpArgs false
set_option linter.unusedVariables false
open Go.RowKit Go.Shelf

section
variable {P : Program} {Q : Exit → Act → World → Prop} {ops : Array Oper}
theorem rows_round (l n : Nat) {row : String} {args : Array Value} {w : World} {R : Value → World → Prop} (h : Rows P row args w R) : RowsIn (Fence.wide.inRound l) n P row args w R :=
  fun c cs _ => let ⟨v, w', r, s⟩ := h c cs; ⟨v, w', r, stepsIn_wide.2 s⟩
theorem upon_round (l n : Nat) {o : Oper} {a : Act} {K : Act → World → Prop} : ∀ {r : Result Next}, o.upon P a K Q r → o.uponIn (Fence.wide.inRound l) n P a K Q r
  | .ok (.value v) w', h => h
  | .ok .skip w', h => h
  | .ok (.defer d) w', h => h
  | .ok (.enter f args) w', h => ⟨(fun e => by cases e), ((callsIn_wide.2 h).inRound l).mono (R' := fun | .returned v, w'' => K (a.put o.dst v) w'' | .panicked chain, w'' => Q (.panic chain) a w'' | .outgrown, _ => LetsOut Q) (fun e w'' he => by cases e <;> exact he)⟩
  | .ok (.row row args) w', h => ⟨(fun e => by cases e), rows_round l (n - 1) h⟩
  | .halt (.panic v) w', h => h
theorem op_round (l n : Nat) (hno : ∀ (i : Nat) (o : Oper), ops[i]? = some o → ∀ c, o.op ≠ .defer c) (hQ : ¬ LetsOut Q) {i : Nat} {a : Act} {w : World} {K : Act → World → Prop} (h : wpOp P ops Q i K a w) : wpOpIn (Fence.wide.inRound l) n P ops Q i K a w := by
  unfold wpOp at h
  unfold wpOpIn
  cases ho : ops[i]? with
  | none => simpa [ho] using h
  | some o =>
    simp only [ho] at h ⊢
    split
    · rename_i hw
      simp only [hw, if_true] at h
      rcases h with h | h
      · refine ⟨fun _ _ => trivial, ?_⟩
        rw [Oper.semAt_eq _ _ _ (hno i o ho)]
        exact upon_round l n h
      · exact absurd h.2 hQ
    · rename_i hw
      simp only [hw] at h
      exact ⟨fun _ _ => trivial, h⟩
theorem any_round (l n : Nat) (hno : ∀ (i : Nat) (o : Oper), ops[i]? = some o → ∀ c, o.op ≠ .defer c) (hQ : ¬ LetsOut Q) (md : Region.Mode) : ∀ (fuel : Nat) (listed : Array Bool) (a : Act) (w : World), wpAny P md ops Q fuel listed a w → wpAnyIn (Fence.wide.inRound l) n P md ops Q fuel listed a w
  | 0, _, _, _, h => h
  | fuel + 1, listed, a, w, h => ⟨h.1, fun i hi => wpOpIn_mono (fun a' w' h' => any_round l n hno hQ md fuel _ a' w' h') (op_round l n hno hQ (h.2 i hi))⟩
/-- no operation is a defer statement -/
def noDefer (ops : List Oper) : Bool := ops.all fun o => match o.op with | .defer _ => false | _ => true
theorem noDefer_at {l : List Oper} (h : noDefer l = true) : ∀ (i : Nat) (o : Oper), l.toArray[i]? = some o → ∀ c, o.op ≠ .defer c := by
  intro i o ho c hc
  unfold noDefer at h
  rw [List.all_eq_true] at h
  have hm : o ∈ l := List.mem_of_getElem? (by simpa using ho)
  have := h o hm
  rw [hc] at this
  cases this
theorem wpIn_region_round {id : Nat} {l : List Oper} {lp n : Nat} {a : Act} {w : World} (hm : P.follows .mixedOrders = true) (hd : noDefer l = true) (hQ : ¬ LetsOut Q)
    (h : wpAny P .any l.toArray Q l.toArray.size (Array.replicate l.toArray.size false) a w.drew) : (Code.region id l.toArray true).wpIn (Fence.wide.inRound lp) n P Q a w :=
  wpIn_region_any hm (any_round lp n (noDefer_at hd) hQ .any _ _ _ _ h)
/-- only reads and quiet calls -/
theorem wpIn_region_X {id : Nat} {l : List Oper} {lp n : Nat} {a : Act} {w : World} (hm : P.follows .mixedOrders = true) (hB : Region.lexB .any l.toArray = true) (hd : noDefer l = true) (hQ : ¬ LetsOut Q) (C : World → Prop) (hC : C w.drew)
    (h : wpQuiet P l.toArray C (fun a' => ∀ w', C w' → Q .normal a' w') l a) : (Code.region id l.toArray true).wpIn (Fence.wide.inRound lp) n P Q a w := by
  simp only [Region.lexB, Bool.and_eq_true] at hB
  refine wpIn_region_round hm hd hQ (wpAny_of_quiet (Q := fun a' => ∀ w', C w' → Q .normal a' w') (fun _ w' hw' h => h w' hw') _ _ _ _ hC ?_)
  have := wpAnyQ_lex (C := C) (md := .any) hB.1 l.toArray.toList 0 (Array.replicate l.toArray.size false) a (by simp) (by simpa using hB.2) (by simpa using h)
  simpa using this
/-- reads and quiet calls, then one that is forced last -/
theorem wpIn_region_tail {id : Nat} {l : List Oper} {lp n : Nat} {a : Act} {w : World} (k : Nat) (hm : P.follows .mixedOrders = true) (hB : Region.lexTailB .any l.toArray k = true) (hd : noDefer l = true) (hQ : ¬ LetsOut Q)
    (h : wpStill P l.toArray w.drew (fun a' => wpList P l.toArray Q (l.drop k) a' w.drew) (l.take k) a) : (Code.region id l.toArray true).wpIn (Fence.wide.inRound lp) n P Q a w := by
  simp only [Region.lexTailB, Bool.and_eq_true, decide_eq_true_eq] at hB
  obtain ⟨⟨⟨⟨hsel, hn⟩, hs⟩, hc⟩, hlex⟩ := hB
  have hn' : k < l.length := by simpa using hn
  have htl : (l.take k).length = k := by simp; omega
  have hdl : (l.drop k).length = l.toArray.size - k := by simp
  have inv0 : HeadInv .any l.toArray k (Array.replicate l.toArray.size false) :=
    ⟨by simp, fun j oj _ hl => (by rw [getD_replicate_false] at hl; cases hl), fun t _ ht => getD_in (by simpa using ht) (getD_replicate_false _ _)⟩
  have H := wpAnyL_lex (md := .any) (g := l.toArray.size - k) hsel hs hc hn (l.take k) 0 _ a (fun j hj => by
    have hj' : j < k := by rw [htl] at hj; exact hj
    simp [hj']) (by simpa using htl) inv0 (by rw [htl]; exact hlex) h
  refine wpIn_region_round hm hd hQ ?_
  have := wpAny_of_head (Q' := Q) (g := l.toArray.size - k) (fun listed a' hL => by
    have := wpAny_of_seq (md := .any) (Q' := Q) (l.drop k) k listed a' w.drew (fun j => by simp [List.getElem?_drop]) (by rw [hdl]; exact hL.1) hL.2
    rwa [hdl] at this) _ _ _ H
  rw [htl, show k + (l.toArray.size - k) = l.toArray.size by omega] at this
  exact this
end
end Go.Proofs.YtldnjnnhfeobdaaGreatDoor
/- Plain theory: what is reached, each class once, level by level; two graphs that run beside each other reach the same. No program. No condition. -/
namespace Go.Proofs.YtldnjnnhfeobdaaGreatDoor
set_option linter.all false
set_option linter.unusedSimpArgs false
set_option linter.unusedVariables false

def addN (cls : Nat → Nat) : List Nat → List Nat → List Nat
  | out, [] => out
  | out, r :: rs => if cls r ∈ out.map cls then addN cls out rs else addN cls (out ++ [r]) rs
def reachN (cls : Nat → Nat) (rf : Nat → List Nat) : Nat → Nat → List Nat → List Nat
  | 0, _, out => out
  | f + 1, k, out => match out[k]? with
    | some i => reachN cls rf f (k + 1) (addN cls out (rf i))
    | none => out
/-- the place of a class -/
def posN (cls : Nat → Nat) (c : Nat) : List Nat → Nat
  | [] => 0
  | i :: l => if cls i = c then 0 else posN cls c l + 1

section
variable {cls : Nat → Nat} {rf : Nat → List Nat}
theorem addN_append (out xs ys : List Nat) : addN cls out (xs ++ ys) = addN cls (addN cls out xs) ys := by
  induction xs generalizing out with
  | nil => rfl
  | cons x xs ih =>
    simp only [List.cons_append, addN]
    split
    · exact ih out
    · exact ih _
theorem addN_one (out : List Nat) (r : Nat) : addN cls out [r] = if cls r ∈ out.map cls then out else out ++ [r] := rfl
theorem addN_spec : ∀ rs out, ∃ new, addN cls out rs = out ++ new ∧ (∀ r ∈ new, r ∈ rs) ∧ (∀ r ∈ rs, cls r ∈ (out ++ new).map cls) ∧ ((out.map cls).Nodup → ((out ++ new).map cls).Nodup) := by
  intro rs
  induction rs with
  | nil => intro out; exact ⟨[], by simp [addN], by simp, by simp, by simp⟩
  | cons r rs ih =>
    intro out
    unfold addN
    by_cases h : cls r ∈ out.map cls
    · rw [if_pos h]
      obtain ⟨new, h1, h2, h3, h4⟩ := ih out
      refine ⟨new, h1, fun q hq => by simp [h2 q hq], fun q hq => ?_, h4⟩
      rcases List.mem_cons.1 hq with rfl | hq
      · rw [List.map_append, List.mem_append]; exact .inl h
      · exact h3 q hq
    · rw [if_neg h]
      obtain ⟨new, h1, h2, h3, h4⟩ := ih (out ++ [r])
      refine ⟨r :: new, by rw [h1]; simp, fun q hq => ?_, fun q hq => ?_, fun hn => ?_⟩
      · rcases List.mem_cons.1 hq with rfl | hq
        · simp
        · simp [h2 q hq]
      · rcases List.mem_cons.1 hq with rfl | hq
        · simp
        · have := h3 q hq; simpa using this
      · have := h4 (by
          rw [List.map_append, List.nodup_append]
          exact ⟨hn, by simp, by rintro a ha b hb rfl; simp at hb; subst hb; exact h ha⟩)
        simpa using this

/-- what holds where the search stands at k -/
structure RInv (n : Nat) (cls : Nat → Nat) (rf : Nat → List Nat) (a k : Nat) (out : List Nat) : Prop where
  start : out[0]? = some a
  rng : ∀ i ∈ out, i < n
  nodup : (out.map cls).Nodup
  le : k ≤ out.length
  past : ∀ j i, j < k → out[j]? = some i → ∀ r ∈ rf i, cls r ∈ out.map cls
theorem RInv.len {n a k : Nat} {out : List Nat} (hc : ∀ i, i < n → cls i < n) (I : RInv n cls rf a k out) : out.length ≤ n := by
  have := nodup_length_le (s := out.map cls) (l := List.range n) I.nodup fun x hx => by
    obtain ⟨i, hi, rfl⟩ := List.mem_map.1 hx
    exact List.mem_range.2 (hc i (I.rng i hi))
  simpa using this
theorem RInv.init {n a : Nat} (ha : a < n) : RInv n cls rf a 0 [a] := ⟨rfl, by simp [ha], by simp, by simp, fun j i h => by omega⟩
theorem RInv.step {n a k i : Nat} {out : List Nat} (hr : ∀ i, i < n → ∀ r ∈ rf i, r < n) (I : RInv n cls rf a k out) (hk : out[k]? = some i) : RInv n cls rf a (k + 1) (addN cls out (rf i)) := by
  obtain ⟨new, h1, h2, h3, h4⟩ := addN_spec (cls := cls) (rf i) out
  rw [h1]
  have hlt := (List.getElem?_eq_some_iff.1 hk).1
  have hi : i < n := I.rng i (List.mem_of_getElem? hk)
  refine ⟨?_, fun j hj => ?_, h4 I.nodup, by rw [List.length_append]; omega, fun j q hj hq r hr' => ?_⟩
  · rw [List.getElem?_append_left (by omega)]; exact I.start
  · rcases List.mem_append.1 hj with hj | hj
    · exact I.rng j hj
    · exact hr i hi j (h2 j hj)
  · rw [List.getElem?_append_left (by omega)] at hq
    by_cases e : j = k
    · subst e
      rw [hk] at hq
      injection hq with hq
      subst hq
      exact h3 r hr'
    · have := I.past j q (by omega) hq r hr'
      rw [List.map_append, List.mem_append]; exact .inl this
theorem reachN_inv {n a : Nat} (hc : ∀ i, i < n → cls i < n) (hr : ∀ i, i < n → ∀ r ∈ rf i, r < n) : ∀ f k out, RInv n cls rf a k out → n < f + k → RInv n cls rf a (reachN cls rf f k out).length (reachN cls rf f k out) := by
  intro f
  induction f with
  | zero =>
    intro k out I h
    have := I.len hc
    have := I.le
    omega
  | succ f ih =>
    intro k out I h
    unfold reachN
    cases hk : out[k]? with
    | none =>
      have h1 : out.length ≤ k := by simpa using hk
      have h2 := I.le
      have : k = out.length := by omega
      subst this
      exact I
    | some i => exact ih (k + 1) _ (I.step hr hk) (by omega)
theorem reachN_done {f k : Nat} {out : List Nat} (h : out.length ≤ k) : reachN cls rf f k out = out := by
  cases f with
  | zero => rfl
  | succ f =>
    unfold reachN
    have : out[k]? = none := by simpa using h
    rw [this]
theorem reachN_go {f k i : Nat} {out : List Nat} (h : out[k]? = some i) : reachN cls rf (f + 1) k out = reachN cls rf f (k + 1) (addN cls out (rf i)) := by
  rw [reachN, h]

theorem posN_lt {c : Nat} : ∀ {l : List Nat}, c ∈ l.map cls → posN cls c l < l.length ∧ ∀ i, l[posN cls c l]? = some i → cls i = c
  | [], h => by simp at h
  | x :: l, h => by
    unfold posN
    by_cases e : cls x = c
    · rw [if_pos e]; exact ⟨by simp, fun i hi => by simp at hi; subst hi; exact e⟩
    · rw [if_neg e]
      have h' : c ∈ l.map cls := by
        rw [List.map_cons, List.mem_cons] at h
        rcases h with h | h
        · exact absurd h.symm e
        · exact h
      obtain ⟨h1, h2⟩ := posN_lt h'
      exact ⟨by simp; omega, fun i hi => h2 i (by simpa using hi)⟩
theorem posN_at : ∀ {l : List Nat} {k i : Nat}, (l.map cls).Nodup → l[k]? = some i → posN cls (cls i) l = k
  | [], k, i, _, h => by simp at h
  | x :: l, 0, i, hn, h => by
    simp at h; subst h
    simp [posN]
  | x :: l, k + 1, i, hn, h => by
    have h' : l[k]? = some i := by simpa using h
    rw [List.map_cons, List.nodup_cons] at hn
    have : cls x ≠ cls i := fun e => hn.1 (by rw [e]; exact List.mem_map_of_mem (List.mem_of_getElem? h'))
    unfold posN
    rw [if_neg this, posN_at hn.2 h']
theorem posN_snoc {c x : Nat} : ∀ {l : List Nat}, posN cls c (l ++ [x]) = if c ∈ l.map cls then posN cls c l else l.length + (if cls x = c then 0 else 1)
  | [] => by simp [posN]
  | y :: l => by
    simp only [List.cons_append, posN]
    by_cases e : cls y = c
    · simp [e]
    · have ih := posN_snoc (c := c) (x := x) (l := l)
      rw [if_neg e, if_neg e, ih]
      have : (c ∈ (y :: l).map cls) ↔ c ∈ l.map cls := by
        rw [List.map_cons, List.mem_cons]
        exact ⟨fun h => h.elim (fun h => absurd h.symm e) id, .inr⟩
      by_cases h : c ∈ l.map cls
      · rw [if_pos h, if_pos (this.2 h)]
      · rw [if_neg h, if_neg (fun h' => h (this.1 h'))]
        simp only [List.length_cons]; omega
end

/-! ### Two graphs beside each other -/
section
variable {R : Nat → Nat → Prop} {c1 c2 : Nat → Nat} {r1 r2 : Nat → List Nat}
theorem All2.snoc {xs ys : List Nat} {x y : Nat} (h : All2 R xs ys) (hxy : R x y) : All2 R (xs ++ [x]) (ys ++ [y]) := by
  induction h with
  | nil => exact .cons hxy .nil
  | cons h t ih => exact .cons h ih
theorem All2.length {xs ys : List Nat} (h : All2 R xs ys) : xs.length = ys.length := by
  induction h with
  | nil => rfl
  | cons h t ih => simp [ih]
theorem All2.get {xs ys : List Nat} (h : All2 R xs ys) : ∀ k : Nat, match xs[k]?, ys[k]? with | some x, some y => R x y | none, none => True | _, _ => False := by
  induction h with
  | nil => intro k; simp
  | cons h t ih =>
    intro k
    cases k with
    | zero => simpa using h
    | succ k => simpa using ih k
theorem All2.mem {xs ys : List Nat} (h : All2 R xs ys) (hc : ∀ i j i' j', R i j → R i' j' → (c1 i = c1 i' ↔ c2 j = c2 j')) {i j : Nat} (hij : R i j) : c1 i ∈ xs.map c1 ↔ c2 j ∈ ys.map c2 := by
  induction h with
  | nil => simp
  | cons h t ih => simp only [List.map_cons, List.mem_cons, ih, hc _ _ _ _ hij h]
theorem All2.pos {xs ys : List Nat} (h : All2 R xs ys) (hc : ∀ i j i' j', R i j → R i' j' → (c1 i = c1 i' ↔ c2 j = c2 j')) {i j : Nat} (hij : R i j) : posN c1 (c1 i) xs = posN c2 (c2 j) ys := by
  induction h with
  | nil => rfl
  | @cons x y xs ys h t ih =>
    unfold posN
    have := hc _ _ _ _ h hij
    by_cases e : c1 x = c1 i
    · rw [if_pos e, if_pos (this.1 e)]
    · rw [if_neg e, if_neg (fun e' => e (this.2 e')), ih]
theorem addN_beside (hc : ∀ i j i' j', R i j → R i' j' → (c1 i = c1 i' ↔ c2 j = c2 j')) {rs ss : List Nat} (h : All2 R rs ss) : ∀ {o1 o2 : List Nat}, All2 R o1 o2 → All2 R (addN c1 o1 rs) (addN c2 o2 ss) := by
  induction h with
  | nil => intro o1 o2 ho; exact ho
  | @cons x y xs ys h t ih =>
    intro o1 o2 ho
    unfold addN
    have := ho.mem hc h
    by_cases e : c1 x ∈ o1.map c1
    · rw [if_pos e, if_pos (this.1 e)]; exact ih ho
    · rw [if_neg e, if_neg (fun e' => e (this.2 e'))]; exact ih (ho.snoc h)
theorem reachN_beside (hc : ∀ i j i' j', R i j → R i' j' → (c1 i = c1 i' ↔ c2 j = c2 j')) (hr : ∀ i j, R i j → All2 R (r1 i) (r2 j)) : ∀ f k {o1 o2 : List Nat}, All2 R o1 o2 → All2 R (reachN c1 r1 f k o1) (reachN c2 r2 f k o2) := by
  intro f
  induction f with
  | zero => intro k o1 o2 h; exact h
  | succ f ih =>
    intro k o1 o2 h
    have hk := h.get k
    unfold reachN
    cases h1 : o1[k]? with
    | none =>
      cases h2 : o2[k]? with
      | none => exact h
      | some y => rw [h1, h2] at hk; exact absurd hk (by simp)
    | some x =>
      cases h2 : o2[k]? with
      | none => rw [h1, h2] at hk; exact absurd hk (by simp)
      | some y =>
        rw [h1, h2] at hk
        exact ih (k + 1) (addN_beside hc (hr x y hk) h)
end
/-- more fuel than there are numbers does no harm -/
theorem reachN_fuel {cls : Nat → Nat} {rf : Nat → List Nat} {n a : Nat} (hc : ∀ i, i < n → cls i < n) (hr : ∀ i, i < n → ∀ r ∈ rf i, r < n) : ∀ f f' k out, RInv n cls rf a k out → n < f + k → n < f' + k → reachN cls rf f k out = reachN cls rf f' k out := by
  intro f
  induction f with
  | zero =>
    intro f' k out I h h'
    have := I.len hc
    have := I.le
    omega
  | succ f ih =>
    intro f' k out I h h'
    cases hk : out[k]? with
    | none =>
      have h1 : out.length ≤ k := by simpa using hk
      rw [reachN_done h1, reachN_done h1]
    | some i =>
      cases f' with
      | zero =>
        have := I.len hc
        have := I.le
        have := (List.getElem?_eq_some_iff.1 hk).1
        omega
      | succ f' =>
        rw [reachN_go hk, reachN_go hk]
        exact ih f' (k + 1) _ (I.step hr hk) (by omega) (by omega)
end Go.Proofs.YtldnjnnhfeobdaaGreatDoor
/- Contract: opened. Conditions: lengths below 2^20. -/
namespace Go.Proofs.YtldnjnnhfeobdaaGreatDoor
set_option linter.all false
set_option linter.unusedSimpArgs false
set_option linter.unusedVariables false
open Go.RowKit Go.Shelf

def outB (n : Nat) (i : Int) : Bool := !hasB n i
set_option maxRecDepth 100000 in
theorem opened1 (w : World) (B : Nat) (A : Option Addr) (n cap : Nat) (i : Int) (hn : n ≤ 1048576) (hc : w.cell? ⟨B, 0, none⟩ = some (.slice A n cap)) :
    Calls Tryz.prog 103 #[.int .i64 i, .pointer (some ⟨B, 0, none⟩)] w (Ret w (.bool (outB n i))) := by
  have hlt := cell_lt hc
  have hh := fun w => has_any w A n cap i hn
  unfold outB
  generalize hasB n i = r at hh ⊢
  have Hh := Lib.hid hh
  clear hh
  go_enter Tryz.func103, Tryz.ntmps103
  go_wp2_with fail
  refine (Hh.out _).mono ?_
  rintro e w1 ⟨rfl, hx1⟩
  go_wp2_with fail
  go_ret
  exact ⟨rfl, hx1⟩
theorem pred103 (w : World) (B : Nat) (A : Option Addr) (n cap : Nat) (xs : List Int) (hn : n ≤ 1048576) (hc : w.cell? ⟨B, 0, none⟩ = some (.slice A n cap)) :
    Pred intE w 103 #[.pointer (some ⟨B, 0, none⟩)] xs (outB n) :=
  ⟨enters_of Tryz.func103 (by kernel_rfl) rfl, by
    rintro x _ w' A' hx ⟨cs, rfl, rfl⟩
    exact opened1 w' B A n cap x hn (hx.cell hc)⟩

/-- the error of a graph, and of indices -/
def errG (g : Graph) (ats : List Int) : Int := if (checkG g).2 = 0 then (if ats.any (outB g.length) then 1 else 0) else 30
theorem errG_bad {g : Graph} {ats : List Int} (h : (checkG g).2 ≠ 0) : errG g ats = 30 := by unfold errG; rw [if_neg h]
set_option maxRecDepth 100000 in
set_option maxHeartbeats 4000000 in
theorem opened_any (w : World) (gv v : Value) (g : Graph) (ats : List Int) (hg : Sl tyE w gv g) (hT : Tidy g) (hG : Glob w) (hv : Sl intE w v ats) (hn : ats.length ≤ 1048576) :
    Calls Tryz.prog 54 #[gv, v] w (Ret w (.tuple #[.agg #[gv], .int .i64 (errG g ats)])) := by
  have hch := fun (w' : World) (hx : Ext w w') => check_any w' gv g (hg.mono hx) hT (hG.mono hx)
  have hlen := hT.len
  obtain ⟨A, cap, rfl⟩ := hg.len
  have hcf := fun (B : Nat) (w' : World) (hx : Ext w w') (hc : w'.cell? ⟨B, 0, none⟩ = some (.slice A g.length cap)) =>
    containsFunc_int 103 #[.pointer (some ⟨B, 0, none⟩)] w' v ats (outB g.length) (hv.mono hx) hn (pred103 w' B A g.length cap ats hlen hc)
  obtain ⟨Av, cv, rfl⟩ := hv.len
  have h30 := checkG_err (g := g)
  have hx0 := Lib.hid (((Ext.refl w).alloc (.cells #[.slice none 0 0] 77)).alloc (.cells #[.slice A g.length cap] 77))
  have hsz : w.heap.size + 1 < ((w.alloc (.cells #[.slice none 0 0] 77)).alloc (.cells #[.slice A g.length cap] 77)).heap.size := by simp
  unfold errG
  generalize ats.any (outB g.length) = r at hcf ⊢
  generalize checkG g = c at hch h30 ⊢
  obtain ⟨c1, c2⟩ := c
  simp only at h30 ⊢
  have Hch := Lib.hid hch
  have Hcf := Lib.hid hcf
  clear hch hcf hg hv hG
  rcases h30 with e | e
  · subst e
    rw [if_pos rfl]
    cases r
    · rw [if_neg (by decide)]
      go_enter Tryz.func54, Tryz.ntmps54
      go_wp2_with fail
      refine (Hch.out _ hx0.out).mono ?_
      rintro e w1 ⟨rfl, hx1⟩
      have Hx1 := Lib.hid (hx0.out.trans hx1)
      have c0 := hx1.cell (v := .slice none 0 0) (p := ⟨w.heap.size, 0, none⟩) (by simp)
      have c1' := hx1.cell (v := .slice A g.length cap) (p := ⟨w.heap.size + 1, 0, none⟩) (by simp)
      have f0 : w1.frozen? ⟨w.heap.size, 0, none⟩ = false := hx1.frozen (v := .slice none 0 0) (p := ⟨w.heap.size, 0, none⟩) (by simp) (by simp)
      have l0 := cell_lt c0
      have l1 := cell_lt c1'
      clear hx1
      go_wp2_with fail
      refine (Hcf.out _ _ Hx1.out c1').mono ?_
      rintro e w2 ⟨rfl, hx2⟩
      have Hx2 := Lib.hid (Hx1.out.trans hx2)
      replace f0 := hx2.frozen c0 f0
      replace c0 := hx2.cell c0
      replace c1' := hx2.cell c1'
      clear hx2
      have l2 := cell_lt c0
      have l3 := cell_lt c1'
      go_wp2_with fail
      exact bodyPost_ret (v := .tuple #[.agg #[.slice A g.length cap], .int .i64 0]) (by simp [results, Tryz.results54, go_sem, c0]) rfl ⟨rfl, Hx2.out.setCell (by simp) _⟩
    · rw [if_pos rfl]
      go_enter Tryz.func54, Tryz.ntmps54
      go_wp2_with fail
      refine (Hch.out _ hx0.out).mono ?_
      rintro e w1 ⟨rfl, hx1⟩
      have Hx1 := Lib.hid (hx0.out.trans hx1)
      have c0 := hx1.cell (v := .slice none 0 0) (p := ⟨w.heap.size, 0, none⟩) (by simp)
      have c1' := hx1.cell (v := .slice A g.length cap) (p := ⟨w.heap.size + 1, 0, none⟩) (by simp)
      have f0 : w1.frozen? ⟨w.heap.size, 0, none⟩ = false := hx1.frozen (v := .slice none 0 0) (p := ⟨w.heap.size, 0, none⟩) (by simp) (by simp)
      have l0 := cell_lt c0
      have l1 := cell_lt c1'
      clear hx1
      go_wp2_with fail
      refine (Hcf.out _ _ Hx1.out c1').mono ?_
      rintro e w2 ⟨rfl, hx2⟩
      have Hx2 := Lib.hid (Hx1.out.trans hx2)
      replace f0 := hx2.frozen c0 f0
      replace c0 := hx2.cell c0
      replace c1' := hx2.cell c1'
      clear hx2
      have l2 := cell_lt c0
      have l3 := cell_lt c1'
      go_wp2_with fail
      exact bodyPost_ret (v := .tuple #[.agg #[.slice A g.length cap], .int .i64 1]) (by simp [results, Tryz.results54, go_sem, c0]) rfl ⟨rfl, Hx2.out.setCell (by simp) _⟩
  · subst e
    rw [if_neg (by decide)]
    go_enter Tryz.func54, Tryz.ntmps54
    go_wp2_with fail
    refine (Hch.out _ hx0.out).mono ?_
    rintro e w1 ⟨rfl, hx1⟩
    have Hx1 := Lib.hid (hx0.out.trans hx1)
    have c0 := hx1.cell (v := .slice none 0 0) (p := ⟨w.heap.size, 0, none⟩) (by simp)
    have c1' := hx1.cell (v := .slice A g.length cap) (p := ⟨w.heap.size + 1, 0, none⟩) (by simp)
    have f0 : w1.frozen? ⟨w.heap.size, 0, none⟩ = false := hx1.frozen (v := .slice none 0 0) (p := ⟨w.heap.size, 0, none⟩) (by simp) (by simp)
    have l0 := cell_lt c0
    have l1 := cell_lt c1'
    clear hx1
    go_wp2_with fail
    exact bodyPost_ret (v := .tuple #[.agg #[.slice A g.length cap], .int .i64 30]) (by simp [results, Tryz.results54, go_sem, c0]) rfl ⟨rfl, Hx1.out.setCell (by simp) _⟩
end Go.Proofs.YtldnjnnhfeobdaaGreatDoor
