/- Parts of the proof, joined: Contract: Classes; turned types are as small. Conditions: a tidy graph; Graphs that are equal, place by place. No program. No condition; Contract of the reference: two graphs are equal. Conditions: tidy graphs; What the reference keeps in memory while it turns a type. No condition; Contract of the reference: a type with other references. Conditions: a fine type, a list that has them all; Contract of the law: equal lists of numbers. Conditions: lengths below 2^20; The graphs that the law TypesOrder makes: another order, a twin behind all others. No program. No condition; Contracts: what types.Same compares with. Conditions: lengths below 2^20. -/
import Derived.Test.YtldnjnnhfeobdaaGreatDoorG05
import Derived.Test.YtldnjnnhfeobdaaGreatDoorG06
import Derived.Test.YtldnjnnhfeobdaaGreatDoorG02
import Derived.Test.YtldnjnnhfeobdaaGreatDoorG07
import Derived.Test.YtldnjnnhfeobdaaGreatDoorG04
import Derived.Test.YtldnjnnhfeobdaaGreatDoorG03
import Derived.Test.YtldnjnnhfeobdaaGreatDoorG09
set_option linter.all false
set_option linter.unusedSimpArgs false
set_option linter.unusedVariables false
namespace Go.Proofs.YtldnjnnhfeobdaaGreatDoor
open Go.RowKit Go.Shelf
def ClassesPost (w : World) (g : Graph) (e : Ending) (w' : World) : Prop :=
 ∃ v, e = .returned (.tuple #[v, .int .i64 (errG g [])]) ∧ Sl intE w' v (classesR g) ∧ Ext w w'
set_option maxRecDepth 100000 in
set_option maxHeartbeats 4000000 in
theorem Classes_any (w : World) (gv : Value) (g : Graph) (hg : Sl tyE w gv g) (hT : Tidy g) (hG : Glob w) :
  Calls Tryz.prog 32 #[gv] w (ClassesPost w g) := by
 have hop := opened_any w gv (.slice none 0 0) g [] hg hT hG (Sl.nil _ _) (by simp)
 have hcl := fun (hW : WF g) (w' : World) (hx : Ext w w') => classes_any w' gv g (hg.mono hx) hT hW
 obtain ⟨A, cap, rfl⟩ := hg.len
 unfold ClassesPost classesR
 by_cases h0 : errG g [] = 0
 ·rw [if_pos h0]
  rw [h0] at hop ⊢
  have hcl := hcl (errG_zero h0).1
  have Hop := Lib.hid hop
  have Hcl := Lib.hid hcl
  clear hop hcl hg hG hT h0
  go_enter Tryz.func32, Tryz.ntmps32
  go_wp2_with fail
  refine Hop.out.mono ?_
  rintro e w1 ⟨rfl, hx1⟩
  have Hx1 := Lib.hid (hx1.alloc (.cells #[.slice A g.length cap] 77))
  clear hx1
  go_wp2_with fail
  refine (Hcl.out _ Hx1.out).mono ?_
  rintro e w2 ⟨v, rfl, hv, hx2⟩
  have Hx2 := Lib.hid (Hx1.out.trans hx2)
  have Hv := Lib.hid hv.any
  clear hv hx2
  go_wp2_with fail
  go_ret2
  exact ⟨v, rfl, Hv.out, Hx2.out⟩
 ·rw [if_neg h0]
  have hne : (errG g [] != 0) = true := by simpa using h0
  generalize errG g [] = er at hop hne ⊢
  have Hop := Lib.hid hop
  clear hop hcl hg hT hG h0
  go_enter Tryz.func32, Tryz.ntmps32
  go_wp2_with fail
  refine Hop.out.mono ?_
  rintro e w1 ⟨rfl, hx1⟩
  go_wp2_with fail
  go_ret2
  exact ⟨_, rfl, Sl.nil _ _, hx1.alloc _⟩
theorem small_turn {f : Int → Int} {t : Ty} (h : TySmall t) : TySmall (turnT f t) := by
 refine ⟨h.brand, h.opaq, ?_, ?_, ?_, ?_, h.overs, h.over⟩
 ·simpa [turnT] using h.parts
 ·intro p hp
  obtain ⟨q, hq, rfl⟩ := List.mem_map.1 (show p ∈ t.parts.map (turnP f) from hp)
  exact h.part q hq
 ·simpa [turnT] using h.methods
 ·intro m hm
  obtain ⟨q, hq, rfl⟩ := List.mem_map.1 (show m ∈ t.methods.map (turnM f) from hm)
  obtain ⟨h1, h2, h3, h4, h5⟩ := h.method q hq
  exact ⟨h1, h2, by simpa [turnM] using h3, h4, h5⟩
theorem tidy_merge {g : Graph} (h : Tidy g) (hg : WF g) : Tidy (mergeG g) := by
 refine ⟨Nat.le_trans (merge_len hg) h.len, fun t ht => ?_⟩
 rw [mergeG_wf hg] at ht
 obtain ⟨i, hi, rfl⟩ := List.mem_map.1 ht
 have hi2 : i < g.length := by simpa using (List.mem_filter.1 hi).1
 obtain ⟨h1, h2⟩ := h.ty _ (getT_mem hi2)
 exact ⟨small_turn h1, h2⟩
end Go.Proofs.YtldnjnnhfeobdaaGreatDoor
/- Graphs that are equal, place by place. No program. No condition. -/
namespace Go.Proofs.YtldnjnnhfeobdaaGreatDoor
open Go.RowKit
theorem eqF_at {α : Type} {p : α → α → Bool} {xs ys : List α} (h : eqF p xs ys = true) {j : Nat} (h1 : j < xs.length) (h2 : j < ys.length) : p xs[j] ys[j] = true := by
 cases hp : p xs[j] ys[j] with
 | true => rfl
 | false => rw [eqF_no h1 h2 hp] at h; cases h
theorem eqF_iff {α : Type} {p : α → α → Bool} {xs ys : List α} : eqF p xs ys = true ↔ xs.length = ys.length ∧ ∀ i (h1 : i < xs.length) (h2 : i < ys.length), p xs[i] ys[i] = true :=
 ⟨fun h => ⟨eqF_length h, fun i h1 h2 => eqF_at h h1 h2⟩, fun h => eqF_yes (j := xs.length) h.1 (by omega) fun i h1 h2 _ => h.2 i h1 h2⟩
def partSame (p q : Part) : Bool := strEq p.name q.name && decide (p.type = q.type)
def methSame (m n : Method) : Bool := strEq m.name n.name && (strEq m.proc n.proc && (decide (m.result = n.result) && (decide (m.args = n.args) && eqF strEq m.raises n.raises)))
def tySame (s t : Ty) : Bool := (plainEqB s t && decide (s.super = t.super)) && (eqF partSame s.parts t.parts && (eqF methSame s.methods t.methods && eqF overEq s.overs t.overs))
def sameGr (g h : Graph) : Bool := eqF tySame g h
/-- the same, as the reference asks it -/
def methR (m n : Method) : Bool := decide (m.result = n.result) && decide (m.args = n.args)
def tySameR (s t : Ty) : Bool := agreeT s t && (decide (s.super = t.super) && (eqF partSame s.parts t.parts && eqF methR s.methods t.methods))
theorem methSame_iff {m n : Method} : methSame m n = true ↔ sameMethodB m n = true ∧ methR m n = true := by
 rw [sameMethodB_iff]
 unfold methSame methR
 simp only [Bool.and_eq_true, decide_eq_true_eq, strEq_iff]
 constructor
 ·rintro ⟨h1, h2, h3, h4, h5⟩
  exact ⟨⟨h1, h2, by rw [h4], by rw [h3], h5⟩, h3, h4⟩
 ·rintro ⟨⟨h1, h2, _, _, h5⟩, h3, h4⟩
  exact ⟨h1, h2, h3, h4, h5⟩
theorem partSame_eq {p q : Part} (h : partSame p q = true) : partEq p q = true := by
 unfold partSame at h
 rw [partEq_eq]
 simp only [Bool.and_eq_true] at h
 exact h.1
theorem tySameR_eq (s t : Ty) : tySameR s t = tySame s t := by
 rw [Bool.eq_iff_iff]
 unfold tySameR tySame
 simp only [Bool.and_eq_true, agreeT_iff, decide_eq_true_eq]
 constructor
 ·rintro ⟨⟨h1, _, h3, h4⟩, h5, h6, h7⟩
  refine ⟨⟨h1, h5⟩, h6, ?_, h4⟩
  rw [eqF_iff] at h3 h7 ⊢
  exact ⟨h3.1, fun i a b => methSame_iff.2 ⟨h3.2 i a b, h7.2 i a b⟩⟩
 ·rintro ⟨⟨h1, h5⟩, h6, h7, h4⟩
  refine ⟨⟨h1, ?_, ?_, h4⟩, h5, h6, ?_⟩
  ·rw [eqF_iff] at h6 ⊢; exact ⟨h6.1, fun i a b => partSame_eq (h6.2 i a b)⟩
  ·rw [eqF_iff] at h7 ⊢; exact ⟨h7.1, fun i a b => (methSame_iff.1 (h7.2 i a b)).1⟩
  ·rw [eqF_iff] at h7 ⊢; exact ⟨h7.1, fun i a b => (methSame_iff.1 (h7.2 i a b)).2⟩
theorem eqF_refl {α : Type} {p : α → α → Bool} (hp : ∀ x, p x x = true) (xs : List α) : eqF p xs xs = true := eqF_iff.2 ⟨rfl, fun i _ _ => hp _⟩
theorem strEq_refl (s : ByteArray) : strEq s s = true := strEq_iff.2 rfl
theorem overEq_refl (o : Over) : overEq o o = true := by rw [overEq_eq, strEq_refl, strEq_refl]; rfl
theorem partSame_refl (p : Part) : partSame p p = true := by unfold partSame; rw [strEq_refl]; simp
theorem methSame_refl (m : Method) : methSame m m = true := by unfold methSame; rw [strEq_refl, strEq_refl, eqF_refl strEq_refl]; simp
theorem tySame_refl (t : Ty) : tySame t t = true := by
 unfold tySame
 rw [eqF_refl partSame_refl, eqF_refl methSame_refl, eqF_refl overEq_refl]
 have : plainEqB t t = true := plainEqB_iff.2 ⟨rfl, rfl, rfl, rfl, rfl, rfl⟩
 rw [this]; simp
theorem sameGr_refl (g : Graph) : sameGr g g = true := eqF_refl tySame_refl g
/-! ### why it is not so -/
theorem sameR_no1 {s t : Ty} (h : agreeT s t = false) : tySame s t = false := by rw [← tySameR_eq]; unfold tySameR; rw [h]; rfl
theorem sameR_no2 {s t : Ty} (h : ¬ s.super = t.super) : tySame s t = false := by rw [← tySameR_eq]; unfold tySameR; rw [decide_eq_false h]; simp
theorem sameR_no3 {s t : Ty} (h : eqF partSame s.parts t.parts = false) : tySame s t = false := by rw [← tySameR_eq]; unfold tySameR; rw [h]; simp
theorem sameR_no4 {s t : Ty} (h : eqF methR s.methods t.methods = false) : tySame s t = false := by rw [← tySameR_eq]; unfold tySameR; rw [h]; simp
theorem sameR_yes {s t : Ty} (h1 : agreeT s t = true) (h2 : s.super = t.super) (h3 : eqF partSame s.parts t.parts = true) (h4 : eqF methR s.methods t.methods = true) : tySame s t = true := by
 rw [← tySameR_eq]; unfold tySameR; rw [h1, decide_eq_true h2, h3, h4]; rfl
theorem ints_no {xs ys : List Int} {j : Nat} (h1 : j < xs.length) (h2 : j < ys.length) (h : ¬ xs[j] = ys[j]) : decide (xs = ys) = false := by
 rw [decide_eq_false_iff_not]
 rintro rfl
 exact h rfl
theorem ints_yes {xs ys : List Int} {j : Nat} (hl : xs.length = ys.length) (hj : ¬ j < xs.length) (h : ∀ i (h1 : i < xs.length) (h2 : i < ys.length), i < j → xs[i] = ys[i]) : decide (xs = ys) = true := by
 rw [decide_eq_true_iff]
 exact List.ext_getElem hl fun i h1 h2 => h i h1 h2 (by omega)
end Go.Proofs.YtldnjnnhfeobdaaGreatDoor
/- Contract of the reference: two graphs are equal. Conditions: tidy graphs. -/
namespace Go.Proofs.YtldnjnnhfeobdaaGreatDoor
open Go.RowKit Go.Shelf
theorem neq_part (a c : ByteArray) (b d : Int) (w : World) : (binOp .neq 95 (.agg #[.string a, .int .i64 b]) (.agg #[.string c, .int .i64 d])).run Tryz.prog w = .ok (.bool (!(a.toList == c.toList && b == d))) w := by
 have u9 := Tryz.underlying9
 have u3 := Tryz.underlying3
 have a9 := Tryz.isAgg9
 have z9 := Tryz.sizeOf9
 have a3 := Tryz.isAgg3
 have z3 := Tryz.sizeOf3
 have hS : Tryz.prog.underlying 95 = some (.struct (Tryz.prog.fieldsOf 95)) := by kernel_rfl
 have hp : Tryz.prog.stoodInHeld 95 = false := by kernel_rfl
 rw [run_neq_struct, show (10000 : Nat) = 9999 + 1 from rfl, run_equalIn_agg w 9999 95 _ _ hS hp]
 simp only [Program.fieldsOf, Tryz.underlying95]
 go_simp
 by_cases h1 : a.toList = c.toList <;> by_cases h2 : b = d <;> simp [h1, h2]
theorem guard95 (op : BinOp) (x y : Operand) (xs ys : Array Value) (w : World) : (eqGuard op 95 x y (.agg xs) (.agg ys)).run Tryz.prog w = .ok () w := run_eqGuard_agg w op 95 x y xs ys (by kernel_rfl)
set_option maxRecDepth 100000 in
set_option maxHeartbeats 16000000 in
theorem rsame_any (w : World) (u v : Value) (g h : Graph) (hg : Sl tyE w u g) (hh : Sl tyE w v h) (hT : Tidy g) (hT' : Tidy h) :
  Calls Tryz.prog 33 #[u, v] w (Ret w (.bool (sameGr g h))) := by
 obtain ⟨A, ca, rfl, hs⟩ := hg.ty
 obtain ⟨B, cb, rfl, ks⟩ := hh.ty
 have hn := hT.len
 have hm := hT'.len
 have Hs := Lib.hid hs
 have Ks := Lib.hid ks
 have Hty := Lib.hid hT.ty
 have Kty := Lib.hid hT'.ty
 clear hs ks hg hh hT hT'
 by_cases hl : g.length = h.length
 case neg =>
  have e : sameGr g h = false := eqF_len hl
  have q : ((g.length : Int) != (h.length : Int)) = true := by rw [bne_iff_ne]; omega
  have q2 : ((g.length : Int) == (h.length : Int)) = false := by rw [beq_eq_false_iff_ne]; omega
  have q3 : ¬ (g.length : Int) = (h.length : Int) := by omega
  rw [e]
  go_enter Tryz.func33, Tryz.ntmps33
  go_wp2_with fail
  go_ret
  exact ⟨rfl, Ext.refl _⟩
 have q : ((g.length : Int) != (h.length : Int)) = false := by rw [bne_eq_false_iff_eq]; omega
 have q2 : ((g.length : Int) == (h.length : Int)) = true := by rw [beq_iff_eq]; omega
 have Hl := Lib.hid hl
 clear hl
 go_enter Tryz.func33, Tryz.ntmps33
 go_wp2_with fail
 clear q q2
 go_loopw [5] (fun u wr => ∃ k : Nat, k ≤ g.length ∧ u = .int .i64 k ∧ Hid (Ext w wr) ∧ Hid (∀ i (h1 : i < g.length) (h2 : i < h.length), i < k → tySame g[i] h[i] = true)) (fun u _ => g.length - (intOf u).toNat)
 case atStart => exact ⟨0, by omega, rfl, Lib.hid (Ext.refl _), Lib.hid (fun i _ _ h => by omega)⟩
 case round =>
  obtain ⟨k, hk, rfl, Hx, Hno⟩ := hrel
  by_cases hlt : k < g.length
  ·have hlt2 : k < h.length := by have := Hl.out; omega
   obtain ⟨b, off, xp, xm, xo, rfl, hat, hof⟩ := Hs.out k hlt
   obtain ⟨b', off', yp, ym, yo, rfl, hat', hof'⟩ := Ks.out k hlt2
   have hsx := (Hty.out _ (List.getElem_mem hlt)).1
   have hsy := (Kty.out _ (List.getElem_mem hlt2)).1
   have Hno1 : Hid (tySame g[k] h[k] = false → sameGr g h = false) := Lib.hid (fun h' => eqF_no (p := tySame) hlt hlt2 h')
   have Hyes1 := Lib.hid (fun (h' : tySame g[k] h[k] = true) i (h1 : i < g.length) (h2 : i < h.length) (hik : i < k + 1) => if e : i = k then (by subst e; exact h' : tySame g[i] h[i] = true) else Hno.out i h1 h2 (by omega))
   have i0 : (0 : Int) ≤ (k : Int) := by omega
   have i1 : (k : Int) < (g.length : Int) := by omega
   have i2 : (k : Int) < (h.length : Int) := by omega
   generalize g[k] = x at *
   generalize h[k] = y at *
   obtain ⟨A1, a1, e1⟩ := hof.parts.len
   obtain ⟨A2, a2, e2⟩ := hof.methods.len
   obtain ⟨A3, a3, e3⟩ := hof.overs.len
   subst e1 e2 e3
   obtain ⟨B1, b1, e1⟩ := hof'.parts.len
   obtain ⟨B2, b2, e2⟩ := hof'.methods.len
   obtain ⟨B3, b3, e3⟩ := hof'.overs.len
   subst e1 e2 e3
   have hcall := fun w' (hx : Ext w w') => ragree_any w' x y _ _ _ _ _ _ hsx hsy (hof.mono hx) (hof'.mono hx)
   unfold tyV at hcall
   have Hcall := Lib.hid hcall
   obtain ⟨d0, d1, d2, d3, d4, d5, d6, d7, d8, d9⟩ := hat.mono Hx.out
   obtain ⟨f0, f1, f2, f3, f4, f5, f6, f7, f8, f9⟩ := hat'.mono Hx.out
   have ld := cell_lt d0
   have lf := cell_lt f0
   have Hof := Lib.hid hof
   have Hof' := Lib.hid hof'
   have Hsx := Lib.hid hsx
   have Hsy := Lib.hid hsy
   have x1 := hsx.parts
   have x2 := hsx.methods
   have y1 := hsy.parts
   have y2 := hsy.methods
   clear hcall hof hof' hat hat' hsx hsy Hno
   have hb1 := heap_alloc_self wr (.cells #[.int .u8 x.kind, .int .i64 x.low, .int .i64 x.high, .bool x.branded, .string x.brand, .string x.opaq, .int .i64 x.super, .slice A1 x.parts.length a1, .slice A2 x.methods.length a2, .slice A3 x.overs.length a3] 42)
   have hb2 := heap_alloc_self (wr.alloc (.cells #[.int .u8 x.kind, .int .i64 x.low, .int .i64 x.high, .bool x.branded, .string x.brand, .string x.opaq, .int .i64 x.super, .slice A1 x.parts.length a1, .slice A2 x.methods.length a2, .slice A3 x.overs.length a3] 42)) (.cells #[.int .u8 y.kind, .int .i64 y.low, .int .i64 y.high, .bool y.branded, .string y.brand, .string y.opaq, .int .i64 y.super, .slice B1 y.parts.length b1, .slice B2 y.methods.length b2, .slice B3 y.overs.length b3] 42)
   rw [World.size_alloc] at hb2
   have Hbx := Lib.hid (show TyBox ((wr.alloc (.cells #[.int .u8 x.kind, .int .i64 x.low, .int .i64 x.high, .bool x.branded, .string x.brand, .string x.opaq, .int .i64 x.super, .slice A1 x.parts.length a1, .slice A2 x.methods.length a2, .slice A3 x.overs.length a3] 42)).alloc (.cells #[.int .u8 y.kind, .int .i64 y.low, .int .i64 y.high, .bool y.branded, .string y.brand, .string y.opaq, .int .i64 y.super, .slice B1 y.parts.length b1, .slice B2 y.methods.length b2, .slice B3 y.overs.length b3] 42)) wr.heap.size x (.slice A1 x.parts.length a1) (.slice A2 x.methods.length a2) (.slice A3 x.overs.length a3) from ((Ext.refl _).alloc _).heap hb1)
   have Hby := Lib.hid (show TyBox ((wr.alloc (.cells #[.int .u8 x.kind, .int .i64 x.low, .int .i64 x.high, .bool x.branded, .string x.brand, .string x.opaq, .int .i64 x.super, .slice A1 x.parts.length a1, .slice A2 x.methods.length a2, .slice A3 x.overs.length a3] 42)).alloc (.cells #[.int .u8 y.kind, .int .i64 y.low, .int .i64 y.high, .bool y.branded, .string y.brand, .string y.opaq, .int .i64 y.super, .slice B1 y.parts.length b1, .slice B2 y.methods.length b2, .slice B3 y.overs.length b3] 42)) (wr.heap.size + 1) y (.slice B1 y.parts.length b1) (.slice B2 y.methods.length b2) (.slice B3 y.overs.length b3) from hb2)
   have Hxy := Lib.hid ((Hx.out.alloc (.cells #[.int .u8 x.kind, .int .i64 x.low, .int .i64 x.high, .bool x.branded, .string x.brand, .string x.opaq, .int .i64 x.super, .slice A1 x.parts.length a1, .slice A2 x.methods.length a2, .slice A3 x.overs.length a3] 42)).alloc (.cells #[.int .u8 y.kind, .int .i64 y.low, .int .i64 y.high, .bool y.branded, .string y.brand, .string y.opaq, .int .i64 y.super, .slice B1 y.parts.length b1, .slice B2 y.methods.length b2, .slice B3 y.overs.length b3] 42))
   clear hb1 hb2
   have lag := @agreeT_iff x y
   have Lag := Lib.hid lag
   clear lag
   cases hag : agreeT x y with
   | false =>
    as_aux_lemma =>
     rw [hag] at Hcall
     have Hv := Lib.hid (Hno1.out (sameR_no1 hag))
     go_wp2_with fail
     refine (Hcall.out _ Hxy.out).mono ?_
     rintro e w5 ⟨rfl, hx5⟩
     go_wp2_with fail
     go_ret
     rw [Hv.out]
     exact ⟨rfl, Hxy.out.trans hx5⟩
   | true =>
    rw [hag] at Hcall
    have Hag := Lib.hid hag
    clear hag
    by_cases hsu : x.super = y.super
    case neg =>
     as_aux_lemma =>
      have s1 : (x.super != y.super) = true := by rw [bne_iff_ne]; exact hsu
      have s2 : (x.super == y.super) = false := by rw [beq_eq_false_iff_ne]; exact hsu
      have Hv := Lib.hid (Hno1.out (sameR_no2 hsu))
      go_wp2_with fail
      refine (Hcall.out _ Hxy.out).mono ?_
      rintro e w5 ⟨rfl, hx5⟩
      have g6 := (Hbx.out.ext hx5).at.c6
      have k6 := (Hby.out.ext hx5).at.c6
      have lg := cell_lt g6
      have lk := cell_lt k6
      simp only [Nat.zero_add] at g6 k6
      go_wp2_with fail
      go_ret
      rw [Hv.out]
      exact ⟨rfl, Hxy.out.trans hx5⟩
    have s1 : (x.super != y.super) = false := by rw [bne_eq_false_iff_eq]; exact hsu
    have s2 : (x.super == y.super) = true := by rw [beq_iff_eq]; exact hsu
    have Hsu := Lib.hid hsu
    clear hsu
    obtain ⟨_, la1, la2, la3⟩ := Lag.out.1 Hag.out
    have Lp := Lib.hid (eqF_length la1)
    have Lm := Lib.hid (eqF_length la2)
    have Hla2 := Lib.hid la2
    clear la1 la2 la3
    go_wp2_with fail
    refine (Hcall.out _ Hxy.out).mono ?_
    rintro e w5 ⟨rfl, hx5⟩
    have g6 := (Hbx.out.ext hx5).at.c6
    have k6 := (Hby.out.ext hx5).at.c6
    have lg := cell_lt g6
    have lk := cell_lt k6
    simp only [Nat.zero_add] at g6 k6
    clear d0 d1 d2 d3 d4 d5 d6 d7 d8 d9 f0 f1 f2 f3 f4 f5 f6 f7 f8 f9 ld lf
    have Hb5x := Lib.hid (Hbx.out.ext hx5)
    have Hb5y := Lib.hid (Hby.out.ext hx5)
    have Hx5 := Lib.hid (Hxy.out.trans hx5)
    clear hx5 Hcall
    go_wp2_with fail
    clear g6 k6 lg lk s1 s2 Hbx Hby Hxy
    generalize wr.heap.size + 1 = by_ at *
    generalize wr.heap.size = bx_ at *
    obtain ⟨wz, rfl⟩ : ∃ wz : World, wz = wr := ⟨_, rfl⟩
    go_loopw [8] (fun u wq => ∃ j : Nat, j ≤ x.parts.length ∧ u = .int .i64 j ∧ Hid (Ext w5 wq) ∧ Hid (∀ i (h1 : i < x.parts.length) (h2 : i < y.parts.length), i < j → partSame x.parts[i] y.parts[i] = true)) (fun u _ => x.parts.length - (intOf u).toNat)
    case atStart => exact ⟨0, by omega, rfl, Lib.hid (Ext.refl _), Lib.hid (fun i _ _ h => by omega)⟩
    case round =>
     obtain ⟨j, hj, rfl, Hx6, Hnp⟩ := hrel
     obtain ⟨_, _, _, _, _, _, _, d7, d8, _⟩ := (Hb5x.out.ext Hx6.out).at
     obtain ⟨_, _, _, _, _, _, _, f7, f8, _⟩ := (Hb5y.out.ext Hx6.out).at
     simp only [Nat.zero_add] at d7 d8 f7 f8
     have lx := cell_lt d7
     have ly := cell_lt f7
     by_cases hjt : j < x.parts.length
     ·have hjt2 : j < y.parts.length := by have := Lp.out; omega
      obtain ⟨Ap, cp, ep, xps⟩ := Hof.out.parts.part
      simp only [Value.slice.injEq] at ep
      obtain ⟨rfl, _, rfl⟩ := ep
      obtain ⟨Bp, cq, eq, yps⟩ := Hof'.out.parts.part
      simp only [Value.slice.injEq] at eq
      obtain ⟨rfl, _, rfl⟩ := eq
      obtain ⟨pb, po, rfl, p0, p1⟩ := xps j hjt
      obtain ⟨qb, qo, rfl, r0, r1⟩ := yps j hjt2
      replace p0 := (Hx5.out.trans Hx6.out).cell p0
      replace p1 := (Hx5.out.trans Hx6.out).cell p1
      replace r0 := (Hx5.out.trans Hx6.out).cell r0
      replace r1 := (Hx5.out.trans Hx6.out).cell r1
      have l0 := cell_lt p0
      have l1 := cell_lt r0
      have j0 : (0 : Int) ≤ (j : Int) := by omega
      have j1 : (j : Int) < (x.parts.length : Int) := by omega
      have j2 : (j : Int) < (y.parts.length : Int) := by omega
      have Hnp1 := Lib.hid (fun h' => Hno1.out (sameR_no3 (eqF_no (p := partSame) hjt hjt2 h')))
      have Hyp1 := Lib.hid (fun (h' : partSame x.parts[j] y.parts[j] = true) i (h1 : i < x.parts.length) (h2 : i < y.parts.length) (hik : i < j + 1) => if e : i = j then (by subst e; exact h' : partSame x.parts[i] y.parts[i] = true) else Hnp.out i h1 h2 (by omega))
      have Hdf := Lib.hid (show partSame x.parts[j] y.parts[j] = (x.parts[j].name.toList == y.parts[j].name.toList && x.parts[j].type == y.parts[j].type) from by unfold partSame strEq; rw [Bool.eq_iff_iff]; simp)
      clear xps yps
      generalize x.parts[j] = s at *
      generalize y.parts[j] = t at *
      have hneq := neq_part s.name t.name s.type t.type
      generalize hb : (s.name.toList == t.name.toList && s.type == t.type) = bb at hneq Hdf
      have hgu := guard95 BinOp.neq
      clear hb
      cases bb with
      | true =>
       as_aux_lemma =>
        have Hn := Lib.hid (Hyp1.out Hdf.out)
        go_wp2_with fail
        go_quiet (fail)
        go_wp2_with fail
        go_roundw
        case rel => exact ⟨j + 1, by omega, by go_num, Lib.hid (Hx6.out.drewN _), Hn⟩
        case measure => simp [intOf]; omega
      | false =>
       as_aux_lemma =>
        have Hv := Lib.hid (Hnp1.out Hdf.out)
        go_wp2_with fail
        go_quiet (fail)
        go_wp2_with fail
        go_ret
        rw [Hv.out]
        exact ⟨rfl, Hx5.out.trans (Hx6.out.drewN _)⟩
     ·have Hparts := Lib.hid (eqF_yes (p := partSame) Lp.out (j := j) hjt (fun i h1 h2 h3 => Hnp.out i h1 h2 h3))
      have i3 : ¬ (j : Int) < (x.parts.length : Int) := by omega
      clear Hnp
      go_wp2_with fail
      go_loopw [9] (fun u wq => ∃ j : Nat, j ≤ x.methods.length ∧ u = .int .i64 j ∧ Hid (Ext w5 wq) ∧ Hid (∀ i (h1 : i < x.methods.length) (h2 : i < y.methods.length), i < j → methR x.methods[i] y.methods[i] = true)) (fun u _ => x.methods.length - (intOf u).toNat)
      case atStart => exact ⟨0, by omega, rfl, Hx6, Lib.hid (fun i _ _ h => by omega)⟩
      case round =>
       clear d7 d8 f7 f8 lx ly hj hjt i3 Hx6
       obtain ⟨j, hj, rfl, Hx6, Hnm⟩ := hrel
       obtain ⟨_, _, _, _, _, _, _, _, d8, _⟩ := (Hb5x.out.ext Hx6.out).at
       obtain ⟨_, _, _, _, _, _, _, _, f8, _⟩ := (Hb5y.out.ext Hx6.out).at
       simp only [Nat.zero_add] at d8 f8
       have lx := cell_lt d8
       have ly := cell_lt f8
       by_cases hjt : j < x.methods.length
       ·have hjt2 : j < y.methods.length := by have := Lm.out; omega
        obtain ⟨Ap, cp, ep, xms⟩ := Hof.out.methods.method
        simp only [Value.slice.injEq] at ep
        obtain ⟨rfl, _, rfl⟩ := ep
        obtain ⟨Bp, cq, eq, yms⟩ := Hof'.out.methods.method
        simp only [Value.slice.injEq] at eq
        obtain ⟨rfl, _, rfl⟩ := eq
        obtain ⟨pb, po, sa, sr, rfl, hsa, hsr, m0, m1, m2, m3, m4⟩ := xms j hjt
        obtain ⟨qb, qo, ta, tr, rfl, hta, htr, n0, n1, n2, n3, n4⟩ := yms j hjt2
        replace m1 := (Hx5.out.trans Hx6.out).cell m1
        replace m2 := (Hx5.out.trans Hx6.out).cell m2
        replace m3 := (Hx5.out.trans Hx6.out).cell m3
        replace n1 := (Hx5.out.trans Hx6.out).cell n1
        replace n2 := (Hx5.out.trans Hx6.out).cell n2
        replace n3 := (Hx5.out.trans Hx6.out).cell n3
        have l0 := cell_lt m1
        have l1 := cell_lt n1
        have j0 : (0 : Int) ≤ (j : Int) := by omega
        have j1 : (j : Int) < (x.methods.length : Int) := by omega
        have j2 : (j : Int) < (y.methods.length : Int) := by omega
        have Hnm1 := Lib.hid (fun h' => Hno1.out (sameR_no4 (eqF_no (p := methR) hjt hjt2 h')))
        have Hym1 := Lib.hid (fun (h' : methR x.methods[j] y.methods[j] = true) i (h1 : i < x.methods.length) (h2 : i < y.methods.length) (hik : i < j + 1) => if e : i = j then (by subst e; exact h' : methR x.methods[i] y.methods[i] = true) else Hnm.out i h1 h2 (by omega))
        have Hal := Lib.hid (sameMethodB_iff.1 (eqF_at Hla2.out hjt hjt2)).2.2.1
        have hsm := (Hsx.out.method _ (List.getElem_mem hjt)).2.2.1
        clear xms yms m0 m4 n0 n4
        generalize x.methods[j] = s at *
        generalize y.methods[j] = t at *
        obtain ⟨Sa, sac, es⟩ := hsa.len
        obtain ⟨Sr, src, er⟩ := hsr.len
        obtain ⟨Ta, tac, et⟩ := hta.len
        obtain ⟨Tr, trc, etr⟩ := htr.len
        subst es er et etr
        have Hsa := Lib.hid hsa
        have Hta := Lib.hid hta
        clear hsa hsr hta htr
        have hb1 := heap_alloc_self wr (.cells #[.slice Sa s.args.length sac, .int .i64 s.result, .slice Sr s.raises.length src] 72)
        have hb2 := heap_alloc_self (wr.alloc (.cells #[.slice Sa s.args.length sac, .int .i64 s.result, .slice Sr s.raises.length src] 72)) (.cells #[.slice Ta t.args.length tac, .int .i64 t.result, .slice Tr t.raises.length trc] 72)
        rw [World.size_alloc] at hb2
        have Hb1 := Lib.hid (((Ext.refl _).alloc (.cells #[.slice Ta t.args.length tac, .int .i64 t.result, .slice Tr t.raises.length trc] 72)).heap hb1)
        have Hb2 := Lib.hid hb2
        have Hx7 := Lib.hid ((Hx6.out.alloc (.cells #[.slice Sa s.args.length sac, .int .i64 s.result, .slice Sr s.raises.length src] 72)).alloc (.cells #[.slice Ta t.args.length tac, .int .i64 t.result, .slice Tr t.raises.length trc] 72))
        clear hb1 hb2
        by_cases hre : s.result = t.result
        case neg =>
         as_aux_lemma =>
          have s1 : (s.result != t.result) = true := by rw [bne_iff_ne]; exact hre
          have s2 : (s.result == t.result) = false := by rw [beq_eq_false_iff_ne]; exact hre
          have Hv := Lib.hid (Hnm1.out (by unfold methR; rw [decide_eq_false hre]; rfl))
          go_wp2_with fail
          go_ret
          rw [Hv.out]
          exact ⟨rfl, Hx5.out.trans Hx7.out⟩
        have s1 : (s.result != t.result) = false := by rw [bne_eq_false_iff_eq]; exact hre
        have s2 : (s.result == t.result) = true := by rw [beq_iff_eq]; exact hre
        have Hre := Lib.hid hre
        clear hre
        go_wp2_with fail
        clear m1 m2 m3 n1 n2 n3 l0 l1 s1 s2
        generalize wr.heap.size + 1 = bt_ at *
        generalize wr.heap.size = bs_ at *
        generalize (wr.alloc (.cells #[.slice Sa s.args.length sac, .int .i64 s.result, .slice Sr s.raises.length src] 72)).alloc (.cells #[.slice Ta t.args.length tac, .int .i64 t.result, .slice Tr t.raises.length trc] 72) = w7 at *
        obtain ⟨wy, rfl⟩ : ∃ wy : World, wy = wr := ⟨_, rfl⟩
        go_loopw [12] (fun u wq => ∃ i : Nat, i ≤ s.args.length ∧ u = .int .i64 i ∧ Hid (Ext w7 wq) ∧ Hid (∀ n (h1 : n < s.args.length) (h2 : n < t.args.length), n < i → s.args[n] = t.args[n])) (fun u _ => s.args.length - (intOf u).toNat)
        case atStart => exact ⟨0, by omega, rfl, Lib.hid (Ext.refl _), Lib.hid (fun i _ _ h => by omega)⟩
        case round =>
         obtain ⟨i, hi, rfl, Hx8, Hna⟩ := hrel
         have c1 := heap_cell (Hx8.out.heap Hb1.out) 0 _ rfl
         have c2 := heap_cell (Hx8.out.heap Hb2.out) 0 _ rfl
         have lc1 := cell_lt c1
         have lc2 := cell_lt c2
         by_cases hit : i < s.args.length
         ·have hit2 : i < t.args.length := by have := Hal.out; omega
          obtain ⟨Ap, cp, ep, sas⟩ := Hsa.out.int
          simp only [Value.slice.injEq] at ep
          obtain ⟨rfl, _, rfl⟩ := ep
          obtain ⟨Bp, cq, eq, tas⟩ := Hta.out.int
          simp only [Value.slice.injEq] at eq
          obtain ⟨rfl, _, rfl⟩ := eq
          obtain ⟨ab, ao, rfl, p0⟩ := sas i hit
          obtain ⟨bb, bo, rfl, r0⟩ := tas i hit2
          replace p0 := (Hx5.out.trans (Hx7.out.trans Hx8.out)).cell p0
          replace r0 := (Hx5.out.trans (Hx7.out.trans Hx8.out)).cell r0
          have l0 := cell_lt p0
          have l1 := cell_lt r0
          have k0 : (0 : Int) ≤ (i : Int) := by omega
          have k1 : (i : Int) < (s.args.length : Int) := by omega
          have k2 : (i : Int) < (t.args.length : Int) := by omega
          have Hna1 := Lib.hid (fun h' : ¬ s.args[i] = t.args[i] => Hnm1.out (by unfold methR; rw [ints_no hit hit2 h']; simp))
          have Hya1 := Lib.hid (fun (h' : s.args[i] = t.args[i]) n (h1 : n < s.args.length) (h2 : n < t.args.length) (hik : n < i + 1) => if e : n = i then (by subst e; exact h' : s.args[n] = t.args[n]) else Hna.out n h1 h2 (by omega))
          clear sas tas
          generalize s.args[i] = p at *
          generalize t.args[i] = r at *
          by_cases hpr : p = r
          ·as_aux_lemma =>
            have Hn := Lib.hid (Hya1.out hpr)
            have s1 : (p != r) = false := by rw [bne_eq_false_iff_eq]; exact hpr
            have s2 : (p == r) = true := by rw [beq_iff_eq]; exact hpr
            clear hpr
            go_wp2_with fail
            go_quiet (fail)
            go_wp2_with fail
            go_roundw
            case rel => exact ⟨i + 1, by omega, by go_num, Lib.hid (Hx8.out.drewN _), Hn⟩
            case measure => simp [intOf]; omega
          ·as_aux_lemma =>
            have Hv := Lib.hid (Hna1.out hpr)
            have s1 : (p != r) = true := by rw [bne_iff_ne]; exact hpr
            have s2 : (p == r) = false := by rw [beq_eq_false_iff_ne]; exact hpr
            clear hpr
            go_wp2_with fail
            go_quiet (fail)
            go_wp2_with fail
            go_ret
            rw [Hv.out]
            exact ⟨rfl, Hx5.out.trans (Hx7.out.trans (Hx8.out.drewN _))⟩
         ·as_aux_lemma =>
           have Hn := Lib.hid (Hym1.out (by unfold methR; rw [decide_eq_true Hre.out, ints_yes Hal.out hit (fun n h1 h2 h3 => Hna.out n h1 h2 h3)]; rfl))
           have k1 : ¬ (i : Int) < (s.args.length : Int) := by omega
           clear Hna
           go_wp2_with fail
           go_roundw
           case rel => exact ⟨j + 1, by omega, by go_num, Lib.hid (Hx7.out.trans Hx8.out), Hn⟩
           case measure => simp [intOf]; omega
       ·as_aux_lemma =>
         have hmeths := eqF_yes (p := methR) Lm.out (j := j) hjt (fun i h1 h2 h3 => Hnm.out i h1 h2 h3)
         have Hn := Lib.hid (Hyes1.out (sameR_yes Hag.out Hsu.out Hparts.out hmeths))
         have k1 : ¬ (j : Int) < (x.methods.length : Int) := by omega
         clear Hnm hmeths
         go_wp2_with fail
         go_roundw
         case rel => exact ⟨k + 1, by omega, by go_num, Lib.hid (Hx5.out.trans Hx6.out), Hn⟩
         case measure => simp [intOf]; omega
  ·have Hv := Lib.hid (show sameGr g h = true from eqF_yes (p := tySame) Hl.out (j := k) hlt (fun i h1 h2 h3 => Hno.out i h1 h2 h3))
   have i1 : ¬ (k : Int) < (g.length : Int) := by omega
   go_wp2_with fail
   go_ret
   rw [Hv.out]
   exact ⟨rfl, Hx.out⟩
end Go.Proofs.YtldnjnnhfeobdaaGreatDoor
/- What the reference keeps in memory while it turns a type. No condition. -/
namespace Go.Proofs.YtldnjnnhfeobdaaGreatDoor
open Go.RowKit Go.Shelf
/-- the number that a list has for another one -/
def lookI (ts : List Int) (x : Int) : Int := ts.getD x.toNat 0
/-- all blocks below lo but o lie as they lay -/
def Kb (lo o : Nat) (w w' : World) : Prop := ∀ b, b < lo → b ≠ o → w'.heap[b]? = w.heap[b]?
section
variable {lo o : Nat} {w w' w'' : World}
theorem Kb.refl : Kb lo o w w := fun _ _ _ => rfl
theorem Kb.trans (h : Kb lo o w w') (k : Kb lo o w' w'') : Kb lo o w w'' := fun b hb ho => (k b hb ho).trans (h b hb ho)
theorem Kb.drew (h : Kb lo o w w') : Kb lo o w w'.drew := h
theorem Kb.alloc (h : Kb lo o w w') (hl : lo ≤ w'.heap.size) (x : Obj) : Kb lo o w (w'.alloc x) := fun b hb ho => (Below.heap_alloc _ _ _ (by omega)).trans (h b hb ho)
theorem Kb.grown (h : Kb lo o w w') {row : Option Nat} (hg : w'.grownBy w'' row) (hl : lo ≤ w'.heap.size) (hr : ∀ b, row = some b → lo ≤ b) : Kb lo o w w'' :=
 fun b hb ho => (hg.block b (by omega) (fun e => by have := hr b e.symm; omega)).trans (h b hb ho)
theorem Kb.set (h : Kb lo o w w') (i : Nat) (v : Value) : Kb lo o w (w'.setCell ⟨o, i, none⟩ v) := fun b hb ho => (Below.heap_setCell _ _ _ _ ho).trans (h b hb ho)
theorem Kb.ext (h : Kb lo o w w') (hx : Ext w' w'') (hl : lo ≤ w'.heap.size) : Kb lo o w w'' := fun b hb ho => (Below.block hx b (by omega)).trans (h b hb ho)
theorem Kb.cell (h : Kb lo o w w') {b i : Nat} {v : Value} (hc : w.cell? ⟨b, i, none⟩ = some v) (hb : b < lo) (ho : b ≠ o) : w'.cell? ⟨b, i, none⟩ = some v :=
 (World.cell?_of_block (w := w) (a := ⟨b, i, none⟩) (h b hb ho)).trans hc
theorem Kb.heap (h : Kb lo o w w') {b : Nat} {x : Obj} (hc : w.heap[b]? = some x) (hb : b < lo) (ho : b ≠ o) : w'.heap[b]? = some x := (h b hb ho).trans hc
theorem Kb.slF {α : Type} {E : Elt α} {F : Nat → Prop} {v : Value} {xs : List α} (h : Kb lo o w w') (hs : SlF F E w v xs) (hF : ∀ b, F b → b < lo ∧ b ≠ o) : SlF F E w' v xs :=
 hs.mono (fun b hb _ => h b (hF b hb).1 (hF b hb).2) (fun _ h _ => h)
end
theorem ownsRow_ext {w w' : World} {base k n : Nat} {e : TypeId} {v : Value} {xs : List Value} (h : w.ownsRow base e k v n xs) (hx : Ext w w') : w'.ownsRow base e k v n xs :=
 h.kept (row := none) ⟨Below.os hx, Below.tape hx, Below.output hx, Below.size hx, fun k hk _ => Below.block hx k hk⟩ (by cases v.ownBlock <;> simp)
theorem grown_set (W : World) (b i : Nat) (v : Value) : W.grownBy (W.setCell ⟨b, i, none⟩ v) (some b) :=
 ⟨rfl, rfl, rfl, (KeepsWalks.setCell W _ v).size, fun k _ hk => Below.heap_setCell _ _ _ k (fun e => hk (by rw [e]))⟩
theorem Own.ne {α : Type} {F : Nat → Prop} {E : Elt α} {w : World} {base : Nat} {e : TypeId} {v : Value} {xs : List α} (h : Own F E w base e v xs) {b : Nat} (hb : b < base) : v.ownBlock = none ∨ v.ownBlock ≠ some b := by
 cases e : v.ownBlock with
 | none => exact .inl rfl
 | some k => exact .inr fun e2 => by injection e2 with e2; have := (h.lt k e).1; omega
/-- own blocks of the call that lie between -/
def Btw (lo hi : Nat) : Nat → Prop := fun b => lo ≤ b ∧ b < hi
/-- the boxes: of the type, of the result, of the type under way -/
structure TuA (w : World) (t : Ty) (vp vm vo : Value) (s : Int) (up um uo : Value) (wr : World) : Prop where
 ext : Ext w wr
 abox : TyBox wr w.heap.size t vp vm vo
 rbox : TyBox wr (w.heap.size + 1) ty0 (.slice none 0 0) (.slice none 0 0) (.slice none 0 0)
 obox : TyBox wr (w.heap.size + 1 + 1) { t with super := s } up um uo
section
variable {w wr wr' : World} {t : Ty} {vp vm vo : Value} {s : Int} {up um uo : Value}
theorem TuA.later (h : TuA w t vp vm vo s up um uo wr) (hx : Ext wr wr') : TuA w t vp vm vo s up um uo wr' :=
 ⟨h.ext.trans hx, h.abox.ext hx, h.rbox.ext hx, h.obox.ext hx⟩
theorem TuA.lt (h : TuA w t vp vm vo s up um uo wr) : w.heap.size + 1 + 1 < wr.heap.size := h.obox.lt
theorem TuA.grown (h : TuA w t vp vm vo s up um uo wr) {row : Option Nat} (hg : wr.grownBy wr' row) (hr : ∀ b, row = some b → w.heap.size + 3 ≤ b) : TuA w t vp vm vo s up um uo wr' := by
 have hl := h.lt
 have hb : ∀ b, b < w.heap.size + 3 → wr'.heap[b]? = wr.heap[b]? := fun b hb => hg.block b (by omega) (fun e => by have := hr b e.symm; omega)
 refine ⟨Below.grown h.ext hg (by omega) (fun k hk => by have := hr k hk; omega), ?_, ?_, ?_⟩
 ·unfold TyBox; rw [hb _ (by omega)]; exact h.abox
 ·unfold TyBox; rw [hb _ (by omega)]; exact h.rbox
 ·unfold TyBox; rw [hb _ (by omega)]; exact h.obox
theorem TuA.set (h : TuA w t vp vm vo s up um uo wr) (i : Nat) (v : Value) {s' : Int} {up' um' uo' : Value} (hb : TyBox (wr.setCell ⟨w.heap.size + 1 + 1, i, none⟩ v) (w.heap.size + 1 + 1) { t with super := s' } up' um' uo') :
  TuA w t vp vm vo s' up' um' uo' (wr.setCell ⟨w.heap.size + 1 + 1, i, none⟩ v) :=
 ⟨h.ext.setCell (by simp; omega) _, by unfold TyBox; rw [Below.heap_setCell _ _ _ _ (by simp; omega)]; exact h.abox, by unfold TyBox; rw [Below.heap_setCell _ _ _ _ (by simp)]; exact h.rbox, hb⟩
theorem TuA.set6 (h : TuA w t vp vm vo s up um uo wr) (n : Int) : TuA w t vp vm vo n up um uo (wr.setCell ⟨w.heap.size + 1 + 1, 6, none⟩ (.int .i64 n)) := h.set 6 _ (heap_set h.obox 6 _)
theorem TuA.set7 (h : TuA w t vp vm vo s up um uo wr) (v : Value) : TuA w t vp vm vo s v um uo (wr.setCell ⟨w.heap.size + 1 + 1, 7, none⟩ v) := h.set 7 _ (heap_set h.obox 7 _)
theorem TuA.set8 (h : TuA w t vp vm vo s up um uo wr) (v : Value) : TuA w t vp vm vo s up v uo (wr.setCell ⟨w.heap.size + 1 + 1, 8, none⟩ v) := h.set 8 _ (heap_set h.obox 8 _)
theorem TuA.set9 (h : TuA w t vp vm vo s up um uo wr) (v : Value) : TuA w t vp vm vo s up um v (wr.setCell ⟨w.heap.size + 1 + 1, 9, none⟩ v) := h.set 9 _ (heap_set h.obox 9 _)
end
end Go.Proofs.YtldnjnnhfeobdaaGreatDoor
/- Contract of the reference: a type with other references. Conditions: a fine type, a list that has them all. -/
namespace Go.Proofs.YtldnjnnhfeobdaaGreatDoor
open Go.RowKit Go.Shelf
set_option maxRecDepth 100000 in
set_option maxHeartbeats 16000000 in
theorem rturned_any (w : World) (n : Nat) (t : Ty) (vp vm vo tv : Value) (ts : List Int) (hof : TyOf w t vp vm vo) (hf : Fine n t) (hts : Sl intE w tv ts) (hn : ts.length ≤ 1048576) (hr : ∀ r ∈ refsL t, 0 ≤ r ∧ r < ts.length) :
  Calls Tryz.prog 22 #[tyV t vp vm vo, tv] w (RetP w (Res tyE w (turnT (lookI ts) t))) := by
 obtain ⟨A1, c1, e1, hp⟩ := hof.parts.part
 obtain ⟨A2, c2, e2, hm⟩ := hof.methods.method
 have hov := hof.overs
 obtain ⟨A3, c3, e3⟩ := hof.overs.len
 subst e1 e2 e3
 obtain ⟨At, ct, rfl, htc⟩ := hts.int
 have Hp := Lib.hid hp
 have Hm := Lib.hid hm
 have Hov := Lib.hid hov
 have Htc := Lib.hid htc
 have hpl := hf.parts
 have hml := hf.methods
 have hol := hf.overs
 have Hargs := Lib.hid hf.args
 have Hrai := Lib.hid hf.raises
 have Hr := Lib.hid hr
 clear hof hp hm hov htc hf hts hr
 unfold tyV
 go_enter Tryz.func22, Tryz.ntmps22
 go_upto_region 4 with fail
 have Hst : Hid (TuA w t (.slice A1 t.parts.length c1) (.slice A2 t.methods.length c2) (.slice A3 t.overs.length c3) t.super (.slice none 0 0) (.slice none 0 0) (.slice A3 t.overs.length c3) (((w.alloc (.cells #[.int .u8 t.kind, .int .i64 t.low, .int .i64 t.high, .bool t.branded, .string t.brand, .string t.opaq, .int .i64 t.super, .slice A1 t.parts.length c1, .slice A2 t.methods.length c2, .slice A3 t.overs.length c3] 42)).alloc (.cells #[.int .u8 0, .int .i64 0, .int .i64 0, .bool false, .string ⟨#[]⟩, .string ⟨#[]⟩, .int .i64 0, .slice none 0 0, .slice none 0 0, .slice none 0 0] 42)).alloc (.cells #[.int .u8 t.kind, .int .i64 t.low, .int .i64 t.high, .bool t.branded, .string t.brand, .string t.opaq, .int .i64 t.super, .slice none 0 0, .slice none 0 0, .slice A3 t.overs.length c3] 42))) := by
  have h1 := heap_alloc_self w (.cells #[.int .u8 t.kind, .int .i64 t.low, .int .i64 t.high, .bool t.branded, .string t.brand, .string t.opaq, .int .i64 t.super, .slice A1 t.parts.length c1, .slice A2 t.methods.length c2, .slice A3 t.overs.length c3] 42)
  have h2 := heap_alloc_self (w.alloc (.cells #[.int .u8 t.kind, .int .i64 t.low, .int .i64 t.high, .bool t.branded, .string t.brand, .string t.opaq, .int .i64 t.super, .slice A1 t.parts.length c1, .slice A2 t.methods.length c2, .slice A3 t.overs.length c3] 42)) (.cells #[.int .u8 0, .int .i64 0, .int .i64 0, .bool false, .string ⟨#[]⟩, .string ⟨#[]⟩, .int .i64 0, .slice none 0 0, .slice none 0 0, .slice none 0 0] 42)
  have h3 := heap_alloc_self ((w.alloc (.cells #[.int .u8 t.kind, .int .i64 t.low, .int .i64 t.high, .bool t.branded, .string t.brand, .string t.opaq, .int .i64 t.super, .slice A1 t.parts.length c1, .slice A2 t.methods.length c2, .slice A3 t.overs.length c3] 42)).alloc (.cells #[.int .u8 0, .int .i64 0, .int .i64 0, .bool false, .string ⟨#[]⟩, .string ⟨#[]⟩, .int .i64 0, .slice none 0 0, .slice none 0 0, .slice none 0 0] 42)) (.cells #[.int .u8 t.kind, .int .i64 t.low, .int .i64 t.high, .bool t.branded, .string t.brand, .string t.opaq, .int .i64 t.super, .slice none 0 0, .slice none 0 0, .slice A3 t.overs.length c3] 42)
  simp only [World.size_alloc] at h2 h3
  exact ⟨(((Ext.refl _).alloc _).alloc _).alloc _, (((Ext.refl _).alloc _).alloc _).heap h1, ((Ext.refl _).alloc _).heap h2, h3⟩
 generalize ((w.alloc (.cells #[.int .u8 t.kind, .int .i64 t.low, .int .i64 t.high, .bool t.branded, .string t.brand, .string t.opaq, .int .i64 t.super, .slice A1 t.parts.length c1, .slice A2 t.methods.length c2, .slice A3 t.overs.length c3] 42)).alloc (.cells #[.int .u8 0, .int .i64 0, .int .i64 0, .bool false, .string ⟨#[]⟩, .string ⟨#[]⟩, .int .i64 0, .slice none 0 0, .slice none 0 0, .slice none 0 0] 42)).alloc (.cells #[.int .u8 t.kind, .int .i64 t.low, .int .i64 t.high, .bool t.branded, .string t.brand, .string t.opaq, .int .i64 t.super, .slice none 0 0, .slice none 0 0, .slice A3 t.overs.length c3] 42) = w0 at Hst ⊢
 go_cut [6] (fun s wx => ∃ uo : Value, Hid (TuA w t (.slice A1 t.parts.length c1) (.slice A2 t.methods.length c2) (.slice A3 t.overs.length c3) t.super (.slice none 0 0) (.slice none 0 0) uo wx) ∧ Hid (SlF (Btw (w.heap.size + 3) wx.heap.size) overE wx uo t.overs))
 case first =>
  have a9 := heap_cell Hst.out.abox 9 _ rfl
  have lA := Hst.out.abox.lt
  have lO := Hst.out.obox.lt
  have o9 := heap_cell Hst.out.obox 9 _ rfl
  have f9 := heap_frozen Hst.out.obox 9
  go_wp2_with (at_builtin; refine own_append_any (F := fun b => w.heap.size + 3 ≤ b) overE flat_over (w.heap.size + 3) rfl _ _ 40 117 32 rfl slice40 _ _ [] t.overs rfl rfl (Own.made _ _ _ _ _ ?b1) (Hov.out.mono (Hst.out.ext.alloc _)) ?b2 ?b3 ?b4 ?_)
  case b1 => omega
  case b2 => omega
  case b3 => omega
  intro v1 w1 hown1 hg1
  obtain ⟨Aw, cw, ew⟩ := hown1.len
  (try rw [List.nil_append] at ew)
  subst ew
  have hs1 : TuA w t (.slice A1 t.parts.length c1) (.slice A2 t.methods.length c2) (.slice A3 t.overs.length c3) t.super (.slice none 0 0) (.slice none 0 0) (.slice A3 t.overs.length c3) w1 :=
   (Hst.out.later ((Ext.refl _).alloc _)).grown hg1 (fun b hb => by simp [Value.ownBlock] at hb; omega)
  clear a9 lA lO o9 f9
  have lA := hs1.abox.lt
  have lO := hs1.obox.lt
  have o9 := heap_cell hs1.obox 9 _ rfl
  have f9 := heap_frozen hs1.obox 9
  have hov1 : SlF (Btw (w.heap.size + 3) w1.heap.size) overE w1 (.slice Aw t.overs.length cw) t.overs := (hown1.sl (fun b hb => hb)).mono (fun _ _ _ => rfl) (fun b hb hlt => ⟨hb, hlt⟩)
  have Hs1 := Lib.hid hs1
  have Hov1 := Lib.hid hov1
  clear hs1 hov1 hown1 hg1 Hst
  go_wp2_with fail
  go_meet
  have hs2 := Hs1.out.set9 (.slice Aw t.overs.length cw)
  have hov2 : SlF (Btw (w.heap.size + 3) w1.heap.size) overE (w1.setCell ⟨w.heap.size + 1 + 1, 9, none⟩ (.slice Aw t.overs.length cw)) (.slice Aw t.overs.length cw) t.overs := Hov1.out.mono (fun b hb _ => Below.heap_setCell _ _ _ _ (by have := hb.1; simp; omega)) (fun _ h _ => h)
  have hsz : (w1.setCell ⟨w.heap.size + 1 + 1, 9, none⟩ (.slice Aw t.overs.length cw)).heap.size = w1.heap.size := by simp
  rw [← hsz] at hov2
  exact ⟨_, Lib.hid hs2, Lib.hid hov2⟩
 case rest =>
  clear Hst Hov
  obtain ⟨uo, Hst, Hov⟩ := hcut
  go_upto_region 5 with fail
  go_cut [26] (fun s wx => s = .bool (hasSuperB t.kind) ∧ wx = wc)
  case first =>
   have d0 := heap_cell Hst.out.abox 0 _ rfl
   have l0 := cell_lt d0
   by_cases h12 : t.kind = 12
   ·have q : (t.kind == 12) = true := by simpa using h12
    have hs : hasSuperB t.kind = true := by unfold hasSuperB; simp [h12]
    have Hs := Lib.hid hs
    clear hs h12
    go_wp2_with fail
    go_meet
    rw [Hs.out]
    exact ⟨rfl, rfl⟩
   ·have q : (t.kind == 12) = false := by rw [beq_eq_false_iff_ne]; exact h12
    by_cases h13 : t.kind = 13
    ·have q' : (t.kind == 13) = true := by simpa using h13
     have hs : hasSuperB t.kind = true := by unfold hasSuperB; simp [h13]
     have Hs := Lib.hid hs
     clear hs h12 h13
     go_wp2_with fail
     go_meet
     rw [Hs.out]
     exact ⟨rfl, rfl⟩
    ·have q' : (t.kind == 13) = false := by rw [beq_eq_false_iff_ne]; exact h13
     have hs : hasSuperB t.kind = false := by unfold hasSuperB; simp [h12, h13]
     have Hs := Lib.hid hs
     clear hs h12 h13
     go_wp2_with fail
     go_meet
     rw [Hs.out]
     exact ⟨rfl, rfl⟩
  case rest =>
   obtain ⟨rfl, hwc⟩ := hcut
   subst hwc
   go_upto_if 26 with fail
   go_cut [6] (fun s wx => Hid (TuA w t (.slice A1 t.parts.length c1) (.slice A2 t.methods.length c2) (.slice A3 t.overs.length c3) (turnT (lookI ts) t).super (.slice none 0 0) (.slice none 0 0) uo wx) ∧ Hid (SlF (Btw (w.heap.size + 3) wx.heap.size) overE wx uo t.overs))
   case first =>
    have lO := Hst.out.obox.lt
    have lA := Hst.out.abox.lt
    cases hs : hasSuperB t.kind with
    | false =>
     have hsu : (turnT (lookI ts) t).super = t.super := turn_super hs
     go_wp2_with fail
     go_meet
     rw [hsu]
     exact ⟨Hst, Hov⟩
    | true =>
     have hsu : (turnT (lookI ts) t).super = lookI ts t.super := turn_super' hs
     obtain ⟨s0, s1⟩ := Hr.out _ (refs_super hs)
     obtain ⟨j, hj⟩ := Int.eq_ofNat_of_zero_le s0
     have hjl : j < ts.length := by omega
     obtain ⟨bt, ot, rfl, ct0⟩ := Htc.out j hjl
     replace ct0 := Hst.out.ext.cell ct0
     have lt0 := cell_lt ct0
     have d6 : wc.cell? ⟨w.heap.size, 6, none⟩ = some (.int .i64 (j : Int)) := by rw [← hj]; exact heap_cell Hst.out.abox 6 _ rfl
     have o6 : wc.cell? ⟨w.heap.size + 1 + 1, 6, none⟩ = some (.int .i64 (j : Int)) := by rw [← hj]; exact heap_cell Hst.out.obox 6 _ rfl
     have f6 := heap_frozen Hst.out.obox 6
     have i0 : (0 : Int) ≤ (j : Int) := by omega
     have i1 : (j : Int) < (ts.length : Int) := by omega
     have hl : lookI ts t.super = ts[j] := by unfold lookI; rw [hj, Int.toNat_natCast, List.getD_eq_getElem?_getD, List.getElem?_eq_getElem hjl]; rfl
     rw [hl] at hsu
     generalize ts[j] = v at *
     have Hsu := Lib.hid hsu
     clear hsu hl hj s0 s1
     go_wp2_with fail
     go_meet
     rw [Hsu.out]
     refine ⟨Lib.hid (Hst.out.set6 v), Lib.hid ?_⟩
     have h := Hov.out.mono (w' := wc.setCell ⟨w.heap.size + 1 + 1, 6, none⟩ (.int .i64 v)) (G := Btw (w.heap.size + 3) wc.heap.size) (fun b hb _ => Below.heap_setCell _ _ _ _ (by have := hb.1; simp; omega)) (fun _ h _ => h)
     simpa using h
   case rest =>
    clear Hst Hov
    obtain ⟨Hst, Hov⟩ := hcut
    generalize hsp : (turnT (lookI ts) t).super = sp at *
    have Hsp := Lib.hid hsp
    clear hsp
    go_wp2_with fail
    go_loopw [6] (fun u wr => ∃ (k : Nat) (up : Value), k ≤ t.parts.length ∧ u = .int .i64 k ∧ Hid (TuA w t (.slice A1 t.parts.length c1) (.slice A2 t.methods.length c2) (.slice A3 t.overs.length c3) sp up (.slice none 0 0) uo wr) ∧ Hid (Own (fun b => wc.heap.size ≤ b) partE wr wc.heap.size 95 up ((t.parts.map (turnP (lookI ts))).take k)) ∧ Hid (SlF (Btw (w.heap.size + 3) wc.heap.size) overE wr uo t.overs) ∧ Hid (wc.heap.size ≤ wr.heap.size)) (fun u _ => t.parts.length - (intOf u).toNat)
    case atStart => exact ⟨0, _, by omega, rfl, Hst, Lib.hid (Own.nil _ _ _ _ _), Hov, Lib.hid (Nat.le_refl _)⟩
    case round =>
     have hN := Hst.out.lt
     have HN := Lib.hid hN
     clear Hst Hov hN
     obtain ⟨k, up, hk, rfl, Hst, Hown, Hov, Hge⟩ := hrel
     have a7 : wr.cell? ⟨w.heap.size, 7, none⟩ = some (.slice A1 t.parts.length c1) := heap_cell Hst.out.abox 7 _ rfl
     have lA := cell_lt a7
     by_cases hlt : k < t.parts.length
     ·obtain ⟨b, off, rfl, p0, p1⟩ := Hp.out k hlt
      have hb := cell_lt p0
      replace p0 := Hst.out.ext.cell p0
      replace p1 := Hst.out.ext.cell p1
      have hpr : t.parts[k].type ∈ refsL t := by unfold refsL; simp only [List.mem_append, List.mem_map]; exact .inr (.inl ⟨_, List.getElem_mem hlt, rfl⟩)
      obtain ⟨s0, s1⟩ := Hr.out _ hpr
      have hsn := take_map_snoc (turnP (lookI ts)) t.parts k hlt
      generalize t.parts[k] = p at *
      obtain ⟨pn, pt⟩ := p
      simp only at p0 p1 s0 s1 hsn
      obtain ⟨j, rfl⟩ := Int.eq_ofNat_of_zero_le s0
      have hjl : j < ts.length := by omega
      obtain ⟨bt, ot, rfl, ct0⟩ := Htc.out j hjl
      have hbt := cell_lt ct0
      replace ct0 := Hst.out.ext.cell ct0
      have hl : turnP (lookI ts) ⟨pn, (j : Int)⟩ = ⟨pn, ts[j]⟩ := by unfold turnP lookI; rw [Int.toNat_natCast, List.getD_eq_getElem?_getD, List.getElem?_eq_getElem hjl]; rfl
      rw [hl] at hsn
      generalize ts[j] = v at *
      have Hsn := Lib.hid hsn
      clear hsn hl hpr
      obtain ⟨Au, cu, eu⟩ := Hown.out.len
      have hlk : ((t.parts.map (turnP (lookI ts))).take k).length = k := by simp; omega
      rw [hlk] at eu
      subst eu
      have o7 : wr.cell? ⟨w.heap.size + 1 + 1, 7, none⟩ = some (.slice Au k cu) := heap_cell Hst.out.obox 7 _ rfl
      have lO := cell_lt o7
      have f7 := heap_frozen Hst.out.obox 7
      obtain ⟨rows, hrl, hown, hrr⟩ := Hown.out
      rw [hlk] at hown
      obtain ⟨iI, zI, hi, hz, hs, hby, hc⟩ := slice38.info
      have i0 : (0 : Int) ≤ (k : Int) := by omega
      have i1 : (k : Int) < (t.parts.length : Int) := by omega
      have i2 : (0 : Int) ≤ (j : Int) := by omega
      have i3 : (j : Int) < (ts.length : Int) := by omega
      have HS := Lib.hid (show ∀ w', Kb wc.heap.size (w.heap.size + 1 + 1) wr w' → w'.cell? ⟨w.heap.size, 7, none⟩ = some (.slice (some ⟨b, off, none⟩) t.parts.length c1) ∧ w'.cell? ⟨b, off + k * 2, none⟩ = some (.string pn) ∧ w'.cell? ⟨b, off + k * 2 + 1, none⟩ = some (.int .i64 (j : Int)) ∧ w'.cell? ⟨bt, ot + j, none⟩ = some (.int .i64 v) from
       fun w' h => by
        have := HN.out
        exact ⟨h.cell a7 (by omega) (by omega), h.cell p0 (by omega) (by omega), h.cell p1 (by omega) (by omega), h.cell ct0 (by omega) (by omega)⟩)
      have Hgr := Lib.hid hown
      have Hrl := Lib.hid hrl
      have Hrr := Lib.hid hrr
      have Hi := Lib.hid hi
      have Hz := Lib.hid hz
      have Hs := Lib.hid hs
      have Hby := Lib.hid hby
      have Hc := Lib.hid hc
      clear hown hrl hrr hi hz hs hby hc hlk Hown
      go_wp2_with fail
      have hge := Hge.out
      refine wp_region_held_drew (S := (fun w' => w'.cell? ⟨w.heap.size, 7, none⟩ = some (.slice (some ⟨b, off, none⟩) t.parts.length c1) ∧ w'.cell? ⟨b, off + k * 2, none⟩ = some (.string pn) ∧ w'.cell? ⟨b, off + k * 2 + 1, none⟩ = some (.int .i64 (j : Int)) ∧ w'.cell? ⟨bt, ot + j, none⟩ = some (.int .i64 v))) (by kernel_rfl) ?_ (fun hHeld => ?_)
      ·(try dsimp only)
       (first | exact HS.out _ Kb.refl.drew | exact HS.out _ (Kb.refl.drew.alloc Hge.out _) | exact HS.out _ hK6 | exact HS.out _ (hK6.set _ _))
      refine wpAnyH_take (i := 0) (v := ?_) rfl (by kernel_rfl) (by kernel_rfl) (by kernel_rfl) (fun _ _ _ h => h) (Or.inl ⟨by rfl, ?_⟩) (by assumption) ?_
      rotate_left
      ·intro w hSw
       (try dsimp only at hSw)
       go_simp
       (first | done | with_reducible rfl | exact rfl)
      (try simp only [Act.put, List.setIfInBounds_toArray, List.set_cons_zero, List.set_cons_succ])
      refine wpAnyH_take (i := 2) (v := ?_) rfl (by kernel_rfl) (by kernel_rfl) (by kernel_rfl) (fun _ _ _ h => h) (Or.inl ⟨by rfl, ?_⟩) (by assumption) ?_
      rotate_left
      ·intro w hSw
       (try dsimp only at hSw)
       go_simp
       (first | done | with_reducible rfl | exact rfl)
      (try simp only [Act.put, List.setIfInBounds_toArray, List.set_cons_zero, List.set_cons_succ])
      refine wpAnyH_take (i := 3) (v := ?_) rfl (by kernel_rfl) (by kernel_rfl) (by kernel_rfl) (fun _ _ _ h => h) (Or.inl ⟨by rfl, ?_⟩) (by assumption) ?_
      rotate_left
      ·intro w hSw
       (try dsimp only at hSw)
       go_simp
       (first | done | with_reducible rfl | exact rfl)
      (try simp only [Act.put, List.setIfInBounds_toArray, List.set_cons_zero, List.set_cons_succ])
      refine wpAnyH_take (i := 4) (v := ?_) rfl (by kernel_rfl) (by kernel_rfl) (by kernel_rfl) (fun _ _ _ h => h) (Or.inl ⟨by rfl, ?_⟩) (by assumption) ?_
      rotate_left
      ·intro w hSw
       (try dsimp only at hSw)
       go_simp
       (first | done | with_reducible rfl | exact rfl)
      (try simp only [Act.put, List.setIfInBounds_toArray, List.set_cons_zero, List.set_cons_succ])
      refine wpAnyH_take (i := 5) (v := ?_) rfl (by kernel_rfl) (by kernel_rfl) (by kernel_rfl) (fun _ _ _ h => h) (Or.inl ⟨by rfl, ?_⟩) (by assumption) ?_
      rotate_left
      ·intro w hSw
       (try dsimp only at hSw)
       go_simp
       (first | done | with_reducible rfl | exact rfl)
      (try simp only [Act.put, List.setIfInBounds_toArray, List.set_cons_zero, List.set_cons_succ])
      refine wpAnyH_take (i := 6) (v := ?_) rfl (by kernel_rfl) (by kernel_rfl) (by kernel_rfl) (fun _ _ _ h => h) (Or.inl ⟨by rfl, ?_⟩) (by assumption) ?_
      rotate_left
      ·intro w hSw
       (try dsimp only at hSw)
       go_simp
       (first | done | with_reducible rfl | exact rfl)
      (try simp only [Act.put, List.setIfInBounds_toArray, List.set_cons_zero, List.set_cons_succ])
      refine wpAnyH_take (i := 7) (v := ?_) rfl (by kernel_rfl) (by kernel_rfl) (by kernel_rfl) (fun _ _ _ h => h) (Or.inl ⟨by rfl, ?_⟩) (by assumption) ?_
      rotate_left
      ·intro w hSw
       (try dsimp only at hSw)
       go_simp
       (first | done | with_reducible rfl | exact rfl)
      (try simp only [Act.put, List.setIfInBounds_toArray, List.set_cons_zero, List.set_cons_succ])
      refine wpAnyH_take (i := 8) (v := ?_) rfl (by kernel_rfl) (by kernel_rfl) (by kernel_rfl) (fun _ _ _ h => h) (Or.inl ⟨by rfl, ?_⟩) (by assumption) ?_
      rotate_left
      ·intro w hSw
       (try dsimp only at hSw)
       go_simp
       (first | done | with_reducible rfl | exact rfl)
      (try simp only [Act.put, List.setIfInBounds_toArray, List.set_cons_zero, List.set_cons_succ])
      refine wpAnyH_take (i := 9) (v := ?_) rfl (by kernel_rfl) (by kernel_rfl) (by kernel_rfl) (fun _ _ _ h => h) (Or.inl ⟨by rfl, ?_⟩) (by assumption) ?_
      rotate_left
      ·intro w hSw
       (try dsimp only at hSw)
       go_simp
       (first | done | with_reducible rfl | exact rfl)
      (try simp only [Act.put, List.setIfInBounds_toArray, List.set_cons_zero, List.set_cons_succ])
      refine wpAnyH_take (i := 10) (v := ?_) rfl (by kernel_rfl) (by kernel_rfl) (by kernel_rfl) (fun _ _ _ h => h) (Or.inl ⟨by rfl, ?_⟩) (by assumption) ?_
      rotate_left
      ·intro w hSw
       (try dsimp only at hSw)
       go_simp
       (first | done | with_reducible rfl | exact rfl)
      (try simp only [Act.put, List.setIfInBounds_toArray, List.set_cons_zero, List.set_cons_succ])
      refine wpAnyH_take (i := 11) (v := ?_) rfl (by kernel_rfl) (by kernel_rfl) (by kernel_rfl) (fun _ _ _ h => h) (Or.inl ⟨by rfl, ?_⟩) (by assumption) ?_
      rotate_left
      ·intro w hSw
       (try dsimp only at hSw)
       go_simp
       (first | done | with_reducible rfl | exact rfl)
      (try simp only [Act.put, List.setIfInBounds_toArray, List.set_cons_zero, List.set_cons_succ])
      refine wpAnyH_take (i := 12) (v := ?_) rfl (by kernel_rfl) (by kernel_rfl) (by kernel_rfl) (fun _ _ _ h => h) (Or.inl ⟨by rfl, ?_⟩) (by assumption) ?_
      rotate_left
      ·intro w hSw
       (try dsimp only at hSw)
       go_simp
       (first | done | with_reducible rfl | exact rfl)
      (try simp only [Act.put, List.setIfInBounds_toArray, List.set_cons_zero, List.set_cons_succ])
      refine wpAnyH_take (i := 13) (v := ?_) rfl (by kernel_rfl) (by kernel_rfl) (by kernel_rfl) (fun _ _ _ h => h) (Or.inl ⟨by rfl, ?_⟩) (by assumption) ?_
      rotate_left
      ·intro w hSw
       (try dsimp only at hSw)
       go_simp
       (first | done | with_reducible rfl | exact rfl)
      (try simp only [Act.put, List.setIfInBounds_toArray, List.set_cons_zero, List.set_cons_succ])
      refine wpAnyH_take (i := 14) (v := ?_) rfl (by kernel_rfl) (by kernel_rfl) (by kernel_rfl) (fun _ _ _ h => h) (Or.inl ⟨by rfl, ?_⟩) (by assumption) ?_
      rotate_left
      ·intro w hSw
       (try dsimp only at hSw)
       go_simp
       (first | done | with_reducible rfl | exact rfl)
      (try simp only [Act.put, List.setIfInBounds_toArray, List.set_cons_zero, List.set_cons_succ])
      refine wpAnyH_take (i := 15) (v := ?_) rfl (by kernel_rfl) (by kernel_rfl) (by kernel_rfl) (fun _ _ _ h => h) (Or.inl ⟨by rfl, ?_⟩) (by assumption) ?_
      rotate_left
      ·intro w hSw
       (try dsimp only at hSw)
       go_simp
       (first | done | with_reducible rfl | exact rfl)
      (try simp only [Act.put, List.setIfInBounds_toArray, List.set_cons_zero, List.set_cons_succ])
      refine wpAnyH_take (i := 16) (v := ?_) rfl (by kernel_rfl) (by kernel_rfl) (by kernel_rfl) (fun _ _ _ h => h) (Or.inl ⟨by rfl, ?_⟩) (by assumption) ?_
      rotate_left
      ·intro w hSw
       (try dsimp only at hSw)
       go_simp
       (first | done | with_reducible rfl | exact rfl)
      (try simp only [Act.put, List.setIfInBounds_toArray, List.set_cons_zero, List.set_cons_succ])
      refine wpAnyH_take (i := 17) (v := ?_) rfl (by kernel_rfl) (by kernel_rfl) (by kernel_rfl) (fun _ _ _ h => h) (Or.inl ⟨by rfl, ?_⟩) (by assumption) ?_
      rotate_left
      ·intro w hSw
       (try dsimp only at hSw)
       go_simp
       (first | done | with_reducible rfl | exact rfl)
      (try simp only [Act.put, List.setIfInBounds_toArray, List.set_cons_zero, List.set_cons_succ])
      refine wpAnyH_ready (rs := [1, 18]) (by kernel_rfl) (by simp) ?_
      refine AllReadyH.cons rfl (fun K hK => ?_) ?_
      ·go_simp
       refine hK.out _ _ ?_ (fun hHeld => ?_)
       ·(try dsimp only)
        (first | exact HS.out _ Kb.refl.drew | exact HS.out _ (Kb.refl.drew.alloc Hge.out _) | exact HS.out _ hK6 | exact HS.out _ (hK6.set _ _))
       clear hK K
       (try simp only [Act.put, List.setIfInBounds_toArray, List.set_cons_zero, List.set_cons_succ])
       refine wpAnyH_ready (rs := [18]) (by kernel_rfl) (by simp) ?_
       refine AllReadyH.cons rfl (fun K hK => ?_) ?_
       ·go_simp
        refine hK.out _ _ ?_ (fun hHeld => ?_)
        ·(try dsimp only)
         (first | exact HS.out _ Kb.refl.drew | exact HS.out _ (Kb.refl.drew.alloc Hge.out _) | exact HS.out _ hK6 | exact HS.out _ (hK6.set _ _))
        clear hK K
        (try simp only [Act.put, List.setIfInBounds_toArray, List.set_cons_zero, List.set_cons_succ])
        refine wpAnyH_ready (rs := [19]) (by kernel_rfl) (by simp) ?_
        refine AllReadyH.cons rfl (fun K hK => ?_) ?_
        ·refine step_append_own (by rfl) _ _ 38 (by rfl) wc.heap.size 2 95 iI zI 24 Tryz.underlying38 Hi.out Hz.out Hs.out Hby.out Hc.out (by decide) _ _ rows.flatten (by rfl) (ownsRow_ext Hgr.out ((Ext.refl wr).drew.alloc _)) (by have := Hge.out; simp; omega) ⟨wr.heap.size, 0, none⟩ 1 [.string pn, .int .i64 v] (by rfl) (by rfl) (World.news_of_block (cs := #[.string pn, .int .i64 v]) (t := 95) (fr := (0, 0)) (heap_alloc_new wr.drew _)) (by simp [Value.oneCell']) (by simp only [maxLen]; omega) (by omega) ?_
         intro v5 w6 hq6 hg6 hat6
         obtain ⟨g9, c9, rfl⟩ := ownsRow_succ hq6
         have hK6 : Kb wc.heap.size (w.heap.size + 1 + 1) wr w6 := (Kb.refl.drew.alloc Hge.out _).grown hg6 (by have := Hge.out; simp; omega) (fun b hb => (Hgr.out.lt b hb).1)
         have hst6 := Lib.hid ((Hst.out.later ((Ext.refl wr).drew.alloc (.cells #[.string pn, .int .i64 v] 95))).grown hg6 (fun b hb => by have h1 := (Hgr.out.lt b hb).1; have h2 := HN.out; omega))
         have o76 := heap_cell hst6.out.obox 7 _ rfl
         have f76 := heap_frozen hst6.out.obox 7
         have l76 := cell_lt o76
         refine hK.out _ _ ?_ (fun hHeld => ?_)
         ·(try dsimp only)
          (first | exact HS.out _ Kb.refl.drew | exact HS.out _ (Kb.refl.drew.alloc Hge.out _) | exact HS.out _ hK6 | exact HS.out _ (hK6.set _ _))
         clear hK K
         (try simp only [Act.put, List.setIfInBounds_toArray, List.set_cons_zero, List.set_cons_succ])
         refine wpAnyH_take (i := 20) (v := ?_) rfl (by kernel_rfl) (by kernel_rfl) (by kernel_rfl) (fun _ _ _ h => h) (Or.inl ⟨by rfl, ?_⟩) (by assumption) ?_
         rotate_left
         ·intro w hSw
          (try dsimp only at hSw)
          go_simp
          (first | done | with_reducible rfl | exact rfl)
         (try simp only [Act.put, List.setIfInBounds_toArray, List.set_cons_zero, List.set_cons_succ])
         refine wpAnyH_ready (rs := [21]) (by kernel_rfl) (by simp) ?_
         refine AllReadyH.cons rfl (fun K hK => ?_) ?_
         ·go_simp
          refine hK.out _ _ ?_ (fun hHeld => ?_)
          ·(try dsimp only)
           (first | exact HS.out _ Kb.refl.drew | exact HS.out _ (Kb.refl.drew.alloc Hge.out _) | exact HS.out _ hK6 | exact HS.out _ (hK6.set _ _))
          clear hK K
          (try simp only [Act.put, List.setIfInBounds_toArray, List.set_cons_zero, List.set_cons_succ])
          refine wpAnyH_done (by kernel_rfl) ?_ _
          as_aux_lemma =>
           have hx6 := (Ext.refl wr).drew.alloc (.cells #[.string pn, .int .i64 v] 95)
           have hown6 := Own.pushed (E := partE) (F := fun b => wc.heap.size ≤ b) (y := (⟨pn, v⟩ : Part)) (e := 95) Hrl.out (fun i x r h1 h2 => Elt.ext (Hrr.out i x r h1 h2) hx6) (show partE.rel _ _ (⟨pn, v⟩ : Part) [.string pn, .int .i64 v] from rfl) (by rw [show ((t.parts.map (turnP (lookI ts))).take k).length = k by simp; omega]; exact hq6) hg6 hat6
           rw [← Hsn.out] at hown6
           have hne := hown6.ne (b := w.heap.size + 1 + 1) (by have := HN.out; omega)
           have Hown7 := Lib.hid (hown6.keptFlat flat_part (grown_set w6 (w.heap.size + 1 + 1) 7 (.slice (some ⟨g9, 0, none⟩) (k + 1) c9)) hne)
           have Hst7 := Lib.hid (hst6.out.set7 (.slice (some ⟨g9, 0, none⟩) (k + 1) c9))
           have Hov7 := Lib.hid ((hK6.set (o := w.heap.size + 1 + 1) 7 (.slice (some ⟨g9, 0, none⟩) (k + 1) c9)).slF Hov.out (fun b hb => ⟨hb.2, by have := hb.1; omega⟩))
           have hge7 : wc.heap.size ≤ (w6.setCell ⟨w.heap.size + 1 + 1, 7, none⟩ (.slice (some ⟨g9, 0, none⟩) (k + 1) c9)).heap.size := by
            have h1 := hg6.size
            have h2 := Hge.out
            simp at h1 ⊢
            omega
           have Hge7 := Lib.hid hge7
           clear hown6 hne hge7 o76 f76 l76 hst6 hK6 hq6 hg6 hat6 hx6
           go_wp2_with fail
           go_roundw
           case rel => exact ⟨k + 1, _, by omega, by go_num, Hst7, Hown7, Hov7, Hge7⟩
           case measure => simp [intOf]; omega
         exact AllReadyH.nil
        exact AllReadyH.nil
       exact AllReadyH.nil
      refine AllReadyH.cons rfl (fun K hK => ?_) ?_
      ·go_simp
       refine hK.out _ _ ?_ (fun hHeld => ?_)
       ·(try dsimp only)
        (first | exact HS.out _ Kb.refl.drew | exact HS.out _ (Kb.refl.drew.alloc Hge.out _) | exact HS.out _ hK6 | exact HS.out _ (hK6.set _ _))
       clear hK K
       (try simp only [Act.put, List.setIfInBounds_toArray, List.set_cons_zero, List.set_cons_succ])
       refine wpAnyH_ready (rs := [1]) (by kernel_rfl) (by simp) ?_
       refine AllReadyH.cons rfl (fun K hK => ?_) ?_
       ·go_simp
        refine hK.out _ _ ?_ (fun hHeld => ?_)
        ·(try dsimp only)
         (first | exact HS.out _ Kb.refl.drew | exact HS.out _ (Kb.refl.drew.alloc Hge.out _) | exact HS.out _ hK6 | exact HS.out _ (hK6.set _ _))
        clear hK K
        (try simp only [Act.put, List.setIfInBounds_toArray, List.set_cons_zero, List.set_cons_succ])
        refine wpAnyH_ready (rs := [19]) (by kernel_rfl) (by simp) ?_
        refine AllReadyH.cons rfl (fun K hK => ?_) ?_
        ·refine step_append_own (by rfl) _ _ 38 (by rfl) wc.heap.size 2 95 iI zI 24 Tryz.underlying38 Hi.out Hz.out Hs.out Hby.out Hc.out (by decide) _ _ rows.flatten (by rfl) (ownsRow_ext Hgr.out ((Ext.refl wr).drew.alloc _)) (by have := Hge.out; simp; omega) ⟨wr.heap.size, 0, none⟩ 1 [.string pn, .int .i64 v] (by rfl) (by rfl) (World.news_of_block (cs := #[.string pn, .int .i64 v]) (t := 95) (fr := (0, 0)) (heap_alloc_new wr.drew _)) (by simp [Value.oneCell']) (by simp only [maxLen]; omega) (by omega) ?_
         intro v5 w6 hq6 hg6 hat6
         obtain ⟨g9, c9, rfl⟩ := ownsRow_succ hq6
         have hK6 : Kb wc.heap.size (w.heap.size + 1 + 1) wr w6 := (Kb.refl.drew.alloc Hge.out _).grown hg6 (by have := Hge.out; simp; omega) (fun b hb => (Hgr.out.lt b hb).1)
         have hst6 := Lib.hid ((Hst.out.later ((Ext.refl wr).drew.alloc (.cells #[.string pn, .int .i64 v] 95))).grown hg6 (fun b hb => by have h1 := (Hgr.out.lt b hb).1; have h2 := HN.out; omega))
         have o76 := heap_cell hst6.out.obox 7 _ rfl
         have f76 := heap_frozen hst6.out.obox 7
         have l76 := cell_lt o76
         refine hK.out _ _ ?_ (fun hHeld => ?_)
         ·(try dsimp only)
          (first | exact HS.out _ Kb.refl.drew | exact HS.out _ (Kb.refl.drew.alloc Hge.out _) | exact HS.out _ hK6 | exact HS.out _ (hK6.set _ _))
         clear hK K
         (try simp only [Act.put, List.setIfInBounds_toArray, List.set_cons_zero, List.set_cons_succ])
         refine wpAnyH_take (i := 20) (v := ?_) rfl (by kernel_rfl) (by kernel_rfl) (by kernel_rfl) (fun _ _ _ h => h) (Or.inl ⟨by rfl, ?_⟩) (by assumption) ?_
         rotate_left
         ·intro w hSw
          (try dsimp only at hSw)
          go_simp
          (first | done | with_reducible rfl | exact rfl)
         (try simp only [Act.put, List.setIfInBounds_toArray, List.set_cons_zero, List.set_cons_succ])
         refine wpAnyH_ready (rs := [21]) (by kernel_rfl) (by simp) ?_
         refine AllReadyH.cons rfl (fun K hK => ?_) ?_
         ·go_simp
          refine hK.out _ _ ?_ (fun hHeld => ?_)
          ·(try dsimp only)
           (first | exact HS.out _ Kb.refl.drew | exact HS.out _ (Kb.refl.drew.alloc Hge.out _) | exact HS.out _ hK6 | exact HS.out _ (hK6.set _ _))
          clear hK K
          (try simp only [Act.put, List.setIfInBounds_toArray, List.set_cons_zero, List.set_cons_succ])
          refine wpAnyH_done (by kernel_rfl) ?_ _
          as_aux_lemma =>
           have hx6 := (Ext.refl wr).drew.alloc (.cells #[.string pn, .int .i64 v] 95)
           have hown6 := Own.pushed (E := partE) (F := fun b => wc.heap.size ≤ b) (y := (⟨pn, v⟩ : Part)) (e := 95) Hrl.out (fun i x r h1 h2 => Elt.ext (Hrr.out i x r h1 h2) hx6) (show partE.rel _ _ (⟨pn, v⟩ : Part) [.string pn, .int .i64 v] from rfl) (by rw [show ((t.parts.map (turnP (lookI ts))).take k).length = k by simp; omega]; exact hq6) hg6 hat6
           rw [← Hsn.out] at hown6
           have hne := hown6.ne (b := w.heap.size + 1 + 1) (by have := HN.out; omega)
           have Hown7 := Lib.hid (hown6.keptFlat flat_part (grown_set w6 (w.heap.size + 1 + 1) 7 (.slice (some ⟨g9, 0, none⟩) (k + 1) c9)) hne)
           have Hst7 := Lib.hid (hst6.out.set7 (.slice (some ⟨g9, 0, none⟩) (k + 1) c9))
           have Hov7 := Lib.hid ((hK6.set (o := w.heap.size + 1 + 1) 7 (.slice (some ⟨g9, 0, none⟩) (k + 1) c9)).slF Hov.out (fun b hb => ⟨hb.2, by have := hb.1; omega⟩))
           have hge7 : wc.heap.size ≤ (w6.setCell ⟨w.heap.size + 1 + 1, 7, none⟩ (.slice (some ⟨g9, 0, none⟩) (k + 1) c9)).heap.size := by
            have h1 := hg6.size
            have h2 := Hge.out
            simp at h1 ⊢
            omega
           have Hge7 := Lib.hid hge7
           clear hown6 hne hge7 o76 f76 l76 hst6 hK6 hq6 hg6 hat6 hx6
           go_wp2_with fail
           go_roundw
           case rel => exact ⟨k + 1, _, by omega, by go_num, Hst7, Hown7, Hov7, Hge7⟩
           case measure => simp [intOf]; omega
         exact AllReadyH.nil
        exact AllReadyH.nil
       exact AllReadyH.nil
      exact AllReadyH.nil
     ·have hkn : k = t.parts.length := by omega
      subst hkn
      rw [List.take_of_length_le (by simp)] at Hown
      have Hpa : Hid (SlF (Btw (w.heap.size + 3) wr.heap.size) partE wr up (t.parts.map (turnP (lookI ts)))) := Lib.hid ((Hown.out.sl (fun b hb => hb)).mono (fun _ _ _ => rfl) (fun b hb hlt => ⟨by have := HN.out; omega, hlt⟩))
      have Hov2 : Hid (SlF (Btw (w.heap.size + 3) wr.heap.size) overE wr uo t.overs) := Lib.hid (Hov.out.mono (fun _ _ _ => rfl) (fun b hb hlt => ⟨hb.1, hlt⟩))
      have i1 : ¬ (t.parts.length : Int) < (t.parts.length : Int) := by omega
      clear Hown Hov hlt hk
      go_wp2_with fail
      obtain ⟨wd, rfl⟩ : ∃ wd : World, wd = wr := ⟨_, rfl⟩
      clear a7 lA
      go_loopw [7] (fun u wr => ∃ (k : Nat) (um : Value), k ≤ t.methods.length ∧ u = .int .i64 k ∧ Hid (TuA w t (.slice A1 t.parts.length c1) (.slice A2 t.methods.length c2) (.slice A3 t.overs.length c3) sp up um uo wr) ∧ Hid (Own (fun b => wd.heap.size ≤ b) methodE wr wd.heap.size 74 um ((t.methods.map (turnM (lookI ts))).take k)) ∧ Hid (SlF (Btw (w.heap.size + 3) wd.heap.size) overE wr uo t.overs) ∧ Hid (SlF (Btw (w.heap.size + 3) wd.heap.size) partE wr up (t.parts.map (turnP (lookI ts)))) ∧ Hid (wd.heap.size ≤ wr.heap.size)) (fun u _ => t.methods.length - (intOf u).toNat)
      case atStart => exact ⟨0, _, by omega, rfl, Hst, Lib.hid (Own.nil _ _ _ _ _), Hov2, Hpa, Lib.hid (Nat.le_refl _)⟩
      case round =>
       replace HN := Lib.hid Hst.out.lt
       clear Hst Hpa Hov2 Hge i1
       obtain ⟨k, um, hk, rfl, Hst, Hown, Hov, Hpa, Hge⟩ := hrel
       have a8 : wr.cell? ⟨w.heap.size, 8, none⟩ = some (.slice A2 t.methods.length c2) := heap_cell Hst.out.abox 8 _ rfl
       have lA := cell_lt a8
       by_cases hlt : k < t.methods.length
       ·obtain ⟨b, off, va, vr, rfl, hva, hvr, m0, m1, m2, m3, m4⟩ := Hm.out k hlt
        replace m0 := Hst.out.ext.cell m0
        replace m1 := Hst.out.ext.cell m1
        replace m2 := Hst.out.ext.cell m2
        replace m3 := Hst.out.ext.cell m3
        replace m4 := Hst.out.ext.cell m4
        have lm := cell_lt m0
        have hml6 := Hargs.out _ (List.getElem_mem hlt)
        have hmr6 := Hrai.out _ (List.getElem_mem hlt)
        have hmr : ∀ r ∈ refsM t.methods[k], 0 ≤ r ∧ r < ts.length := fun r hr => Hr.out r (by unfold refsL; simp only [List.mem_append, List.mem_flatMap]; exact .inr (.inr ⟨_, List.getElem_mem hlt, hr⟩))
        have hsn := take_map_snoc (turnM (lookI ts)) t.methods k hlt
        have i0 : (0 : Int) ≤ (k : Int) := by omega
        have i1 : (k : Int) < (t.methods.length : Int) := by omega
        generalize t.methods[k] = m at *
        obtain ⟨Aa, ca, ea⟩ := hva.len
        obtain ⟨Ar, cr, er⟩ := hvr.len
        subst ea er
        have Hva := Lib.hid hva
        have Hvr := Lib.hid hvr
        have Hmr := Lib.hid hmr
        have Hsn := Lib.hid hsn
        clear hva hvr hmr hsn
        go_wp2_with fail
        clear a8 m0 m1 m2 m3 m4 lm
        have Hb := Lib.hid (heap_alloc_self wr (.cells #[.string m.name, .slice Aa m.args.length ca, .int .i64 m.result, .slice Ar m.raises.length cr, .string m.proc] 74))
        have Hx := Lib.hid ((Ext.refl wr).alloc (.cells #[.string m.name, .slice Aa m.args.length ca, .int .i64 m.result, .slice Ar m.raises.length cr, .string m.proc] 74))
        have hsz : (wr.alloc (.cells #[.string m.name, .slice Aa m.args.length ca, .int .i64 m.result, .slice Ar m.raises.length cr, .string m.proc] 74)).heap.size = wr.heap.size + 1 := by simp
        have Hsz := Lib.hid hsz
        clear hsz
        generalize wr.alloc (.cells #[.string m.name, .slice Aa m.args.length ca, .int .i64 m.result, .slice Ar m.raises.length cr, .string m.proc] 74) = wA at Hb Hx Hsz ⊢
        obtain ⟨wo, rfl⟩ : ∃ wo : World, wo = wr := ⟨_, rfl⟩
        go_loopw [9, 10] (fun o u wq => ∃ i : Nat, i ≤ m.args.length ∧ u = .int .i64 i ∧ Hid (Ext wA wq) ∧ Hid (Own (fun b => wo.heap.size < b) intE wq (wo.heap.size + 1) 3 o ((m.args.map (lookI ts)).take i))) (fun _ u _ => m.args.length - (intOf u).toNat)
        case atStart => exact ⟨0, by omega, rfl, Lib.hid (Ext.refl _), Lib.hid (Own.nil _ _ _ _ _)⟩
        case round =>
         obtain ⟨i, hi, rfl, Hq, Hoa⟩ := hrel
         have c1' := heap_cell (Hq.out.heap Hb.out) 1 _ rfl
         have lb := cell_lt c1'
         by_cases hit : i < m.args.length
         ·obtain ⟨Ap, cp, ep, has⟩ := Hva.out.int
          simp only [Value.slice.injEq] at ep
          obtain ⟨rfl, _, rfl⟩ := ep
          obtain ⟨ab, ao, rfl, p0⟩ := has i hit
          replace p0 := (Hst.out.ext.trans (Hx.out.trans Hq.out)).cell p0
          have lp := cell_lt p0
          have har : m.args[i] ∈ refsM m := by unfold refsM; exact List.mem_append_left _ (List.getElem_mem hit)
          obtain ⟨s0, s1⟩ := Hmr.out _ har
          have hsa := take_map_snoc (lookI ts) m.args i hit
          clear has har
          generalize m.args[i] = x at *
          obtain ⟨j, rfl⟩ := Int.eq_ofNat_of_zero_le s0
          have hjl : j < ts.length := by omega
          obtain ⟨bt, ot, rfl, ct0⟩ := Htc.out j hjl
          replace ct0 := (Hst.out.ext.trans (Hx.out.trans Hq.out)).cell ct0
          have lt0 := cell_lt ct0
          have hl : lookI ts (j : Int) = ts[j] := by unfold lookI; rw [Int.toNat_natCast, List.getD_eq_getElem?_getD, List.getElem?_eq_getElem hjl]; rfl
          rw [hl] at hsa
          generalize ts[j] = v at *
          have Hsa := Lib.hid hsa
          have k0 : (0 : Int) ≤ (i : Int) := by omega
          have k1 : (i : Int) < (m.args.length : Int) := by omega
          have k2 : (0 : Int) ≤ (j : Int) := by omega
          have k3 : (j : Int) < (ts.length : Int) := by omega
          have hqs : wo.heap.size + 1 ≤ wr.heap.size := by have h1 := Hq.out.size; have h2 := Hsz.out; omega
          have Hqs := Lib.hid hqs
          clear hsa hl s0 s1 hqs
          go_wp2_with (at_builtin; refine own_append (F := fun b => wo.heap.size < b) intE (wo.heap.size + 1) rfl (.tmp 81) (.tmp 91) 24 3 8 rfl slice24 _ _ v [.int .i64 v] rfl rfl Hoa.out rfl ?c1 ?c2 ?c3 ?_)
          case c1 => exact Hqs.out
          case c2 => simp; omega
          case c3 => decide
          intro v2 w2 hown2 hg2
          have hx2 : Ext wA w2 := Below.grown Hq.out hg2 Hq.out.size (fun k hk => by have h1 := (Hoa.out.lt k hk).1; have h2 := Hsz.out; omega)
          rw [← Hsa.out] at hown2
          have Hown2 := Lib.hid hown2
          have Hx2 := Lib.hid hx2
          clear hown2 hg2 hx2 Hoa Hq
          go_wp2_with fail
          go_roundw
          case rel => exact ⟨i + 1, by omega, by go_num, Hx2, Hown2⟩
          case measure => simp [intOf]; omega
         ·have hin : i = m.args.length := by omega
          subst hin
          rw [List.take_of_length_le (by simp)] at Hoa
          have k1 : ¬ (m.args.length : Int) < (m.args.length : Int) := by omega
          clear hit hi
          obtain ⟨Ag, cg, eg⟩ := Hoa.out.len
          rw [List.length_map] at eg
          subst eg
          have c0 := heap_cell (Hq.out.heap Hb.out) 0 _ rfl
          have c2 := heap_cell (Hq.out.heap Hb.out) 2 _ rfl
          have f1 := heap_frozen (Hq.out.heap Hb.out) 1
          go_upto_region 21 with fail
          have hb3 := heap_set (Hq.out.heap Hb.out) 1 (.slice Ag m.args.length cg)
          simp only [List.setIfInBounds_toArray, List.set_cons_zero, List.set_cons_succ] at hb3
          have hx3 := (Hx.out.trans Hq.out).setCell (p := ⟨wo.heap.size, 1, none⟩) (Nat.le_refl _) (.slice Ag m.args.length cg)
          have hva3 := (Hoa.out.sl (fun b hb => hb)).mono (w' := wr.setCell ⟨wo.heap.size, 1, none⟩ (.slice Ag m.args.length cg)) (G := fun b => wo.heap.size < b) (fun b hb _ => Below.heap_setCell _ _ _ _ (by simp; omega)) (fun _ h _ => h)
          have Hb3 := Lib.hid hb3
          have Hx3 := Lib.hid hx3
          have Hva3 := Lib.hid hva3
          clear c0 c2 f1 c1' lb hb3 hx3 hva3 Hoa Hva
          generalize wr.setCell ⟨wo.heap.size, 1, none⟩ (.slice Ag m.args.length cg) = w3 at Hb3 Hx3 Hva3 ⊢
          have c3 := heap_cell Hb3.out 3 _ rfl
          have f3 := heap_frozen Hb3.out 3
          have lb := cell_lt c3
          go_cut [10] (fun s wx => ∃ v4, Hid (wx.heap[wo.heap.size]? = some (.cells #[.string m.name, .slice Ag m.args.length cg, .int .i64 m.result, v4, .string m.proc] 74 (0, 0))) ∧ Hid (Ext wo wx) ∧ Hid (SlF (fun b => wo.heap.size < b) intE wx (.slice Ag m.args.length cg) (m.args.map (lookI ts))) ∧ Hid (SlF (fun b => wo.heap.size < b) strE wx v4 m.raises))
          case first =>
           go_wp2_with (at_builtin; refine own_append_any (F := fun b => wo.heap.size < b) strE flat_str (wo.heap.size + 1) rfl _ _ 70 9 16 rfl slice70 _ _ [] m.raises rfl rfl (Own.made _ _ _ _ _ ?e1) (Hvr.out.mono (Hst.out.ext.trans (Hx3.out.alloc _))) ?e2 ?e3 ?e4 ?_)
           case e1 => omega
           case e2 => omega
           case e3 => omega
           intro v4 w4 hown4 hg4
           have hx34 : Ext w3 w4 := Below.grown ((Ext.refl _).alloc _) hg4 (by simp) (fun b hb => by simp [Value.ownBlock] at hb; omega)
           have hs4 := hown4.sl (fun b hb => hb)
           obtain ⟨A4, c4, e4⟩ := hown4.len
           (try rw [List.nil_append] at e4)
           (try rw [List.nil_append] at hs4)
           subst e4
           have hb4 := hx34.heap Hb3.out
           have d3 := heap_cell hb4 3 _ rfl
           have g3 := heap_frozen hb4 3
           have ld := cell_lt d3
           have Hx34 := Lib.hid hx34
           have Hs4 := Lib.hid hs4
           have Hb4 := Lib.hid hb4
           clear hx34 hs4 hb4 hown4 hg4 c3 f3 lb
           go_wp2_with fail
           go_meet
           have hb5 := heap_set Hb4.out 3 (.slice A4 m.raises.length c4)
           simp only [List.setIfInBounds_toArray, List.set_cons_zero, List.set_cons_succ] at hb5
           exact ⟨_, Lib.hid hb5, Lib.hid ((Hx3.out.trans Hx34.out).setCell (Nat.le_refl _) _),
            Lib.hid ((Hva3.out.ext Hx34.out).mono (G := fun b => wo.heap.size < b) (fun b hb _ => Below.heap_setCell _ _ _ _ (by simp; omega)) (fun _ h _ => h)),
            Lib.hid (Hs4.out.mono (G := fun b => wo.heap.size < b) (fun b hb _ => Below.heap_setCell _ _ _ _ (by simp; omega)) (fun _ h _ => h))⟩
          case rest =>
           clear c3 f3 lb Hb3 Hx3 Hva3 Hvr
           obtain ⟨v4, Hb3, Hx3, Hva3, Hvr3⟩ := hcut
           have c2 := heap_cell Hb3.out 2 _ rfl
           have lb := cell_lt c2
           go_upto_if 106 with fail
           go_cut [10] (fun s wx => Hid (wx.heap[wo.heap.size]? = some (.cells #[.string m.name, .slice Ag m.args.length cg, .int .i64 (turnM (lookI ts) m).result, v4, .string m.proc] 74 (0, 0))) ∧ Hid (Ext wo wx) ∧ Hid (SlF (fun b => wo.heap.size < b) intE wx (.slice Ag m.args.length cg) (m.args.map (lookI ts))) ∧ Hid (SlF (fun b => wo.heap.size < b) strE wx v4 m.raises))
           case first =>
            have hif : (turnM (lookI ts) m).result = if 0 ≤ m.result then lookI ts m.result else m.result := rfl
            by_cases hres : 0 ≤ m.result
            ·rw [if_pos hres] at hif
             obtain ⟨s0, s1⟩ := Hmr.out m.result (by unfold refsM; rw [if_pos hres]; simp)
             obtain ⟨j, hj⟩ := Int.eq_ofNat_of_zero_le s0
             have hjl : j < ts.length := by omega
             obtain ⟨bt, ot, rfl, ct0⟩ := Htc.out j hjl
             replace ct0 := (Hst.out.ext.trans Hx3.out).cell ct0
             have lt0 := cell_lt ct0
             have hl : lookI ts m.result = ts[j] := by unfold lookI; rw [hj, Int.toNat_natCast, List.getD_eq_getElem?_getD, List.getElem?_eq_getElem hjl]; rfl
             rw [hl] at hif
             generalize ts[j] = v at *
             have Hif := Lib.hid hif
             replace c2 : wc.cell? ⟨wo.heap.size, 2, none⟩ = some (.int .i64 (j : Int)) := by rw [← hj]; exact c2
             have f2 := heap_frozen Hb3.out 2
             have k0 : (0 : Int) ≤ (j : Int) := by omega
             have k1 : (j : Int) < (ts.length : Int) := by omega
             clear hif hl s0 s1 hj
             go_wp2_with fail
             go_meet
             rw [Hif.out]
             have hb5 := heap_set Hb3.out 2 (.int .i64 v)
             simp only [List.setIfInBounds_toArray, List.set_cons_zero, List.set_cons_succ] at hb5
             exact ⟨Lib.hid hb5, Lib.hid (Hx3.out.setCell (Nat.le_refl _) _),
              Lib.hid (Hva3.out.mono (G := fun b => wo.heap.size < b) (fun b hb _ => Below.heap_setCell _ _ _ _ (by simp; omega)) (fun _ h _ => h)),
              Lib.hid (Hvr3.out.mono (G := fun b => wo.heap.size < b) (fun b hb _ => Below.heap_setCell _ _ _ _ (by simp; omega)) (fun _ h _ => h))⟩
            ·rw [if_neg hres] at hif
             have Hif := Lib.hid hif
             clear hif
             go_wp2_with fail
             go_meet
             rw [Hif.out]
             exact ⟨Hb3, Hx3, Hva3, Hvr3⟩
           case rest =>
            clear Hb3 Hx3 Hva3 Hvr3 c2 lb
            obtain ⟨Hb3, Hx3, Hva3, Hvr3⟩ := hcut
            have d0 := heap_cell Hb3.out 0 _ rfl
            have d1 := heap_cell Hb3.out 1 _ rfl
            have d2 := heap_cell Hb3.out 2 _ rfl
            have d3 := heap_cell Hb3.out 3 _ rfl
            have d4 := heap_cell Hb3.out 4 _ rfl
            have ld := cell_lt d0
            have Hst3 := Lib.hid (Hst.out.later Hx3.out)
            have o8 : wc.cell? ⟨w.heap.size + 1 + 1, 8, none⟩ = some um := heap_cell Hst3.out.obox 8 _ rfl
            have lO := cell_lt o8
            obtain ⟨Av, cv, ev⟩ := Hvr3.out.any.len
            subst ev
            obtain ⟨Au, cu, eu⟩ := Hown.out.len
            have hlk : ((t.methods.map (turnM (lookI ts))).take k).length = k := by simp; omega
            rw [hlk] at eu
            subst eu
            have HS := Lib.hid (show methodE.rel (fun b => wd.heap.size ≤ b ∧ some b ≠ (Value.slice Au k cu).ownBlock) wc (turnM (lookI ts) m) [.string m.name, .slice Ag m.args.length cg, .int .i64 (turnM (lookI ts) m).result, .slice Av m.raises.length cv, .string m.proc] from by
             have hlt2 := Hown.out.lt
             have hge := Hge.out
             have hf : ∀ b, wo.heap.size < b → wd.heap.size ≤ b ∧ some b ≠ (Value.slice Au k cu).ownBlock := fun b hb => ⟨by omega, fun e => by have := (hlt2 b e.symm).2; omega⟩
             exact ⟨_, _, rfl, by simpa [turnM] using Hva3.out.mono (fun _ _ _ => rfl) (fun b hb _ => hf b hb), Hvr3.out.mono (fun _ _ _ => rfl) (fun b hb _ => hf b hb)⟩)
            clear Hva3 Hvr3
            have Hown3 := Lib.hid (Hown.out.kept Hx3.out)
            have hgz : wd.heap.size ≤ wc.heap.size := by have h1 := Hge.out; have h2 := Hx3.out.size; omega
            have Hgz := Lib.hid hgz
            clear hgz
            go_wp2_with (at_builtin; go_must (refine own_append (F := fun b => wd.heap.size ≤ b) methodE wd.heap.size rfl (.tmp 116) (.tmp 118) 39 74 88 rfl slice39 _ _ (turnM (lookI ts) m) _ rfl rfl Hown3.out HS.out ?g1 ?g2 ?g3 ?_))
            case g1 => exact Hgz.out
            case g2 =>
             (try simp only [List.length_take, List.length_map])
             omega
            intro v9 w9 hown9 hg9
            rw [← Hsn.out] at hown9
            have Kx := Hx3.out
            have hrow : ∀ b, (Value.slice Au k cu).ownBlock = some b → wd.heap.size ≤ b := fun b hb => (Hown.out.lt b hb).1
            have hst9 := (Hst.out.later Kx).grown hg9 (fun b hb => by have h1 := hrow b hb; have h2 := HN.out; omega)
            have hK9 : Kb wd.heap.size (w.heap.size + 1 + 1) wo w9 := (Kb.refl.ext Kx Hge.out).grown hg9 (by have h1 := Kx.size; have h2 := Hge.out; omega) hrow
            obtain ⟨A9, c9, e9⟩ := hown9.len
            have hlk9 : ((t.methods.map (turnM (lookI ts))).take (k + 1)).length = k + 1 := by simp; omega
            rw [hlk9] at e9
            subst e9
            have o9 := heap_cell hst9.obox 8 _ rfl
            have l9 := cell_lt o9
            have f9 := heap_frozen hst9.obox 8
            have hne := hown9.ne (b := w.heap.size + 1 + 1) (by have := HN.out; omega)
            have Hown7 := Lib.hid (hown9.keptG (G := fun b => wd.heap.size ≤ b) (grown_set w9 (w.heap.size + 1 + 1) 8 (.slice A9 (k + 1) c9)) hne (fun b hb => by have h1 := HN.out; intro e; injection e with e; omega) (fun b hb _ => hb))
            have Hst7 := Lib.hid (hst9.set8 (.slice A9 (k + 1) c9))
            have Hov7 := Lib.hid ((hK9.set (o := w.heap.size + 1 + 1) 8 (.slice A9 (k + 1) c9)).slF Hov.out (fun b hb => ⟨hb.2, by have := hb.1; omega⟩))
            have Hpa7 := Lib.hid ((hK9.set (o := w.heap.size + 1 + 1) 8 (.slice A9 (k + 1) c9)).slF Hpa.out (fun b hb => ⟨hb.2, by have := hb.1; omega⟩))
            have hge7 : wd.heap.size ≤ (w9.setCell ⟨w.heap.size + 1 + 1, 8, none⟩ (.slice A9 (k + 1) c9)).heap.size := by
             have h1 := hg9.size
             have h2 := Hge.out
             have h3 := Kx.size
             simp only [World.size_setCell]
             omega
            have Hge7 := Lib.hid hge7
            clear hown9 hne hge7 hst9 hK9 hg9 hrow Kx d0 d1 d2 d3 d4 ld o8 lO Hst3 HS Hown3 Hgz hlk hlk9
            go_wp2_with fail
            go_roundw
            case rel => exact ⟨k + 1, _, by omega, by go_num, Hst7, Hown7, Hov7, Hpa7, Hge7⟩
            case measure => simp [intOf]; omega
       ·have hkn : k = t.methods.length := by omega
        subst hkn
        rw [List.take_of_length_le (by simp)] at Hown
        have i1 : ¬ (t.methods.length : Int) < (t.methods.length : Int) := by omega
        have b2 := Hst.out.obox
        have q0 := heap_cell b2 0 _ rfl
        have q1 := heap_cell b2 1 _ rfl
        have q2 := heap_cell b2 2 _ rfl
        have q3 := heap_cell b2 3 _ rfl
        have q4 := heap_cell b2 4 _ rfl
        have q5 := heap_cell b2 5 _ rfl
        have q6 := heap_cell b2 6 _ rfl
        have q7 := heap_cell b2 7 _ rfl
        have q8 := heap_cell b2 8 _ rfl
        have q9 := heap_cell b2 9 _ rfl
        have y := Hst.out.rbox
        have y0 := heap_cell y 0 _ rfl
        have y1 := heap_cell y 1 _ rfl
        have y2 := heap_cell y 2 _ rfl
        have y3 := heap_cell y 3 _ rfl
        have y4 := heap_cell y 4 _ rfl
        have y5 := heap_cell y 5 _ rfl
        have y6 := heap_cell y 6 _ rfl
        have y7 := heap_cell y 7 _ rfl
        have y8 := heap_cell y 8 _ rfl
        have y9 := heap_cell y 9 _ rfl
        have f0 := heap_frozen y 0
        have f1 := heap_frozen y 1
        have f2 := heap_frozen y 2
        have f3 := heap_frozen y 3
        have f4 := heap_frozen y 4
        have f5 := heap_frozen y 5
        have f6 := heap_frozen y 6
        have f7 := heap_frozen y 7
        have f8 := heap_frozen y 8
        have f9 := heap_frozen y 9
        have ly := Hst.out.rbox.lt
        have lq := Hst.out.obox.lt
        obtain ⟨Ap, cp, ep⟩ := Hpa.out.any.len
        obtain ⟨Am, cm, em⟩ := Hown.out.len
        obtain ⟨Ao, co, eo⟩ := Hov.out.any.len
        rw [List.length_map] at ep em
        subst ep em eo
        have Hms := Lib.hid (Hown.out.sl (fun b hb => hb))
        clear b2 y Hown hlt hk
        go_wp2_with fail
        have hk : ∀ b, b ≠ w.heap.size + 1 → ((((((((((wr.setCell ⟨w.heap.size + 1, 0, none⟩ (.int .u8 t.kind)).setCell ⟨w.heap.size + 1, 1, none⟩ (.int .i64 t.low)).setCell ⟨w.heap.size + 1, 2, none⟩ (.int .i64 t.high)).setCell ⟨w.heap.size + 1, 3, none⟩ (.bool t.branded)).setCell ⟨w.heap.size + 1, 4, none⟩ (.string t.brand)).setCell ⟨w.heap.size + 1, 5, none⟩ (.string t.opaq)).setCell ⟨w.heap.size + 1, 6, none⟩ (.int .i64 sp)).setCell ⟨w.heap.size + 1, 7, none⟩ (.slice Ap t.parts.length cp)).setCell ⟨w.heap.size + 1, 8, none⟩ (.slice Am t.methods.length cm)).setCell ⟨w.heap.size + 1, 9, none⟩ (.slice Ao t.overs.length co)).heap[b]? = wr.heap[b]? := fun b hb =>
         (Below.heap_setCell _ _ _ _ hb).trans ((Below.heap_setCell _ _ _ _ hb).trans ((Below.heap_setCell _ _ _ _ hb).trans ((Below.heap_setCell _ _ _ _ hb).trans ((Below.heap_setCell _ _ _ _ hb).trans ((Below.heap_setCell _ _ _ _ hb).trans ((Below.heap_setCell _ _ _ _ hb).trans ((Below.heap_setCell _ _ _ _ hb).trans ((Below.heap_setCell _ _ _ _ hb).trans (Below.heap_setCell _ _ _ _ hb)))))))))
        have hx10 : Ext w ((((((((((wr.setCell ⟨w.heap.size + 1, 0, none⟩ (.int .u8 t.kind)).setCell ⟨w.heap.size + 1, 1, none⟩ (.int .i64 t.low)).setCell ⟨w.heap.size + 1, 2, none⟩ (.int .i64 t.high)).setCell ⟨w.heap.size + 1, 3, none⟩ (.bool t.branded)).setCell ⟨w.heap.size + 1, 4, none⟩ (.string t.brand)).setCell ⟨w.heap.size + 1, 5, none⟩ (.string t.opaq)).setCell ⟨w.heap.size + 1, 6, none⟩ (.int .i64 sp)).setCell ⟨w.heap.size + 1, 7, none⟩ (.slice Ap t.parts.length cp)).setCell ⟨w.heap.size + 1, 8, none⟩ (.slice Am t.methods.length cm)).setCell ⟨w.heap.size + 1, 9, none⟩ (.slice Ao t.overs.length co)) := ((((((((((Hst.out.ext).setCell (by simp) _).setCell (by simp) _).setCell (by simp) _).setCell (by simp) _).setCell (by simp) _).setCell (by simp) _).setCell (by simp) _).setCell (by simp) _).setCell (by simp) _).setCell (by simp) _
        have e5 := row10_set Hst.out.rbox (.int .u8 t.kind) (.int .i64 t.low) (.int .i64 t.high) (.bool t.branded) (.string t.brand) (.string t.opaq) (.int .i64 sp) (.slice Ap t.parts.length cp) (.slice Am t.methods.length cm) (.slice Ao t.overs.length co)
        generalize ((((((((((wr.setCell ⟨w.heap.size + 1, 0, none⟩ (.int .u8 t.kind)).setCell ⟨w.heap.size + 1, 1, none⟩ (.int .i64 t.low)).setCell ⟨w.heap.size + 1, 2, none⟩ (.int .i64 t.high)).setCell ⟨w.heap.size + 1, 3, none⟩ (.bool t.branded)).setCell ⟨w.heap.size + 1, 4, none⟩ (.string t.brand)).setCell ⟨w.heap.size + 1, 5, none⟩ (.string t.opaq)).setCell ⟨w.heap.size + 1, 6, none⟩ (.int .i64 sp)).setCell ⟨w.heap.size + 1, 7, none⟩ (.slice Ap t.parts.length cp)).setCell ⟨w.heap.size + 1, 8, none⟩ (.slice Am t.methods.length cm)).setCell ⟨w.heap.size + 1, 9, none⟩ (.slice Ao t.overs.length co)) = w10 at hk hx10 e5 ⊢
        have d0 := heap_cell e5 0 _ rfl
        have d1 := heap_cell e5 1 _ rfl
        have d2 := heap_cell e5 2 _ rfl
        have d3 := heap_cell e5 3 _ rfl
        have d4 := heap_cell e5 4 _ rfl
        have d5 := heap_cell e5 5 _ rfl
        have d6 := heap_cell e5 6 _ rfl
        have d7 := heap_cell e5 7 _ rfl
        have d8 := heap_cell e5 8 _ rfl
        have d9 := heap_cell e5 9 _ rfl
        have hm : turnT (lookI ts) t = ⟨t.kind, t.low, t.high, t.branded, t.brand, t.opaq, sp, t.parts.map (turnP (lookI ts)), t.methods.map (turnM (lookI ts)), t.overs⟩ := by rw [← Hsp.out]; rfl
        rw [hm]
        refine bodyPost_ret (v := .agg #[.int .u8 t.kind, .int .i64 t.low, .int .i64 t.high, .bool t.branded, .string t.brand, .string t.opaq, .int .i64 sp, .slice Ap t.parts.length cp, .slice Am t.methods.length cm, .slice Ao t.overs.length co]) ?_ rfl ?_
        ·simp [results, Tryz.results22, go_sem, d0, d1, d2, d3, d4, d5, d6, d7, d8, d9]
        ·have h1 := HN.out
         refine ⟨_, rfl, ⟨_, ⟨_, _, _, rfl, ?_, ?_, ?_⟩, rfl⟩, hx10⟩
         ·exact Hpa.out.mono (fun b hb _ => hk b (by have := hb.1; omega)) (fun b hb _ => by have := hb.1; unfold New; omega)
         ·exact Hms.out.mono (fun b hb _ => hk b (by omega)) (fun b hb _ => by unfold New; omega)
         ·exact Hov.out.mono (fun b hb _ => hk b (by have := hb.1; omega)) (fun b hb _ => by have := hb.1; unfold New; omega)
end Go.Proofs.YtldnjnnhfeobdaaGreatDoor
/- Contract of the law: equal lists of numbers. Conditions: lengths below 2^20. -/
namespace Go.Proofs.YtldnjnnhfeobdaaGreatDoor
open Go.RowKit Go.Shelf
set_option maxRecDepth 100000 in
set_option maxHeartbeats 4000000 in
theorem sameInts_any (w : World) (u v : Value) (xs ys : List Int) (hu : Sl intE w u xs) (hv : Sl intE w v ys) (hx : xs.length ≤ 1048576) (hy : ys.length ≤ 1048576) :
  Calls Tryz.prog 19 #[u, v] w (Ret w (.bool (decide (xs = ys)))) := by
 obtain ⟨A, ca, rfl, ha⟩ := hu.int
 obtain ⟨B, cb, rfl, hb⟩ := hv.int
 have Ha := Lib.hid ha
 have Hb := Lib.hid hb
 clear ha hb hu hv
 by_cases hl : xs.length = ys.length
 ·have hl' : ((xs.length : Int) == (ys.length : Int)) = true := by simp; omega
  have hln : ((xs.length : Int) != (ys.length : Int)) = false := by simp; omega
  obtain ⟨wo, rfl⟩ : ∃ wo : World, wo = w := ⟨_, rfl⟩
  go_enter Tryz.func19, Tryz.ntmps19
  go_wp2_with fail
  go_loopw [5] (fun u wr => ∃ k : Nat, k ≤ xs.length ∧ u = .int .i64 k ∧ Hid (Ext wo wr) ∧ Hid (∀ j (hj : j < xs.length), j < k → xs[j] = ys[j]'(by omega))) (fun u _ => xs.length - (intOf u).toNat)
  case atStart => exact ⟨0, by omega, rfl, Lib.hid (Ext.refl _), Lib.hid (fun j _ h => by omega)⟩
  case round =>
   obtain ⟨k, hk, rfl, Hx, Hno⟩ := hrel
   by_cases hlt : k < xs.length
   ·obtain ⟨b1, o1, rfl, c1⟩ := Ha.out k hlt
    obtain ⟨b2, o2, rfl, c2⟩ := Hb.out k (by omega)
    replace c1 := Hx.out.cell c1
    replace c2 := Hx.out.cell c2
    have l1 := cell_lt c1
    have l2 := cell_lt c2
    have i0 : (0 : Int) ≤ (k : Int) := by omega
    have i1 : (k : Int) < (xs.length : Int) := by omega
    have i2 : (k : Int) < (ys.length : Int) := by omega
    by_cases he : xs[k] = ys[k]'(by omega)
    ·have hnext := fun j (hj : j < xs.length) (hjk : j < k + 1) => if e : j = k then (by subst e; exact he : xs[j] = ys[j]'(by omega)) else Hno.out j hj (by omega)
     have Hn := Lib.hid hnext
     rw [← he] at c2
     clear hnext he
     go_wp2_with fail
     go_quiet (fail)
     go_wp2_with fail
     go_roundw
     case rel => exact ⟨k + 1, by omega, by go_num, Lib.hid (Hx.out.drewN _), Hn⟩
     case measure => simp [intOf]; omega
    ·have hne : (xs[k] != ys[k]'(by omega)) = true := by simpa using he
     have hf : decide (xs = ys) = false := decide_eq_false (fun e => he (by subst e; rfl))
     have Hf := Lib.hid hf
     generalize xs[k] = x at *
     generalize ys[k]'(by omega) = y at *
     clear hf he
     go_wp2_with fail
     go_quiet (fail)
     go_wp2_with fail
     go_ret
     rw [Hf.out]
     exact ⟨rfl, Hx.out.drewN _⟩
   ·have i1 : ¬ (k : Int) < (xs.length : Int) := by omega
    have hf : decide (xs = ys) = true := decide_eq_true (List.ext_getElem hl (fun j h1 h2 => Hno.out j h1 (by omega)))
    have Hf := Lib.hid hf
    clear hf
    go_wp2_with fail
    go_ret
    rw [Hf.out]
    exact ⟨rfl, Hx.out⟩
 ·have hln : ((xs.length : Int) != (ys.length : Int)) = true := by simp; omega
  have hf : decide (xs = ys) = false := decide_eq_false (fun e => hl (by rw [e]))
  rw [hf]
  go_enter Tryz.func19, Tryz.ntmps19
  go_wp2_with fail
  go_ret
  exact ⟨rfl, Ext.refl _⟩
end Go.Proofs.YtldnjnnhfeobdaaGreatDoor
/- The graphs that the law TypesOrder makes: another order, a twin behind all others. No program. No condition. -/
namespace Go.Proofs.YtldnjnnhfeobdaaGreatDoor
open Go.RowKit
theorem turnT_congr {f f' : Int → Int} {t : Ty} (h : ∀ r ∈ refsL t, f r = f' r) : turnT f t = turnT f' t := by
 have hs : (if hasSuperB t.kind = true then f t.super else t.super) = if hasSuperB t.kind = true then f' t.super else t.super := by
  split
  ·rename_i hs; exact h _ (refs_super hs)
  ·rfl
 have hp : t.parts.map (turnP f) = t.parts.map (turnP f') := List.map_congr_left fun p hp => by unfold turnP; rw [h _ (refs_part hp)]
 have hm : t.methods.map (turnM f) = t.methods.map (turnM f') := List.map_congr_left fun m hm => by
  have hr := fun r hr => h r (refs_meth hm hr)
  have ha : m.args.map f = m.args.map f' := List.map_congr_left fun r hr' => hr r (by unfold refsM; simp [hr'])
  have hres : (if 0 ≤ m.result then f m.result else m.result) = if 0 ≤ m.result then f' m.result else m.result := by
   split
   ·rename_i h0; exact hr _ (by unfold refsM; simp [h0])
   ·rfl
  unfold turnM
  rw [ha, hres]
 unfold turnT
 rw [hs, hp, hm]
/-! ### another order -/
/-! ### a twin behind all others -/
end Go.Proofs.YtldnjnnhfeobdaaGreatDoor
/- Contracts: what types.Same compares with. Conditions: lengths below 2^20. -/
namespace Go.Proofs.YtldnjnnhfeobdaaGreatDoor
open Go.RowKit Go.Shelf
theorem partB_eq (p q : Part) : (p.name.toList == q.name.toList && p.type == q.type) = partSame p q := by
 unfold partSame strEq; congr 1
set_option maxRecDepth 100000 in
set_option maxHeartbeats 2000000 in
theorem equal_part (w : World) (v u : Value) (xs ys : List Part) (hv : Sl partE w v xs) (hu : Sl partE w u ys) (hn : xs.length ≤ 1048576) (hm : ys.length ≤ 1048576) :
  Calls Tryz.prog 82 #[v, u] w (Ret w (.bool (eqF partSame xs ys))) := by
 obtain ⟨A, cap, rfl, hs⟩ := hv.part
 obtain ⟨B, cbp, rfl, ht⟩ := hu.part
 have Hs := Lib.hid hs
 have Ht := Lib.hid ht
 clear hs hv ht hu
 by_cases hl : xs.length = ys.length
 ·have Hl := Lib.hid hl
  have hb : ((xs.length : Int) != (ys.length : Int)) = false := by simp [hl]
  have hle : xs.length ≤ ys.length := by omega
  clear hl
  go_enter Tryz.func82, Tryz.ntmps82
  go_wp2_with fail
  go_loopw [13] (fun k wr => ∃ j : Nat, j ≤ xs.length ∧ k = .int .i64 j ∧ Ext w wr ∧ Hid (∀ i (h : i < xs.length) (h' : i < ys.length), i < j → partSame xs[i] ys[i] = true)) (fun k _ => xs.length - (intOf k).toNat)
  case atStart => exact ⟨0, by omega, by simp, Ext.refl _, fun i _ _ h => by omega⟩
  case round =>
   obtain ⟨j, hj, rfl, hx, hno⟩ := hrel
   by_cases hlt : j < xs.length
   ·have hlt' : j < ys.length := by omega
    obtain ⟨b, off, rfl, h0, h1⟩ := Hs.out j hlt
    obtain ⟨c, off2, rfl, g0, g1⟩ := Ht.out j hlt'
    have hb1 := cell_lt (hx.cell h0)
    have hb2 := cell_lt (hx.cell g0)
    have h0 := hx.cell h0
    have h1 := hx.cell h1
    have g0 := hx.cell g0
    have g1 := hx.cell g1
    have i0 : (0 : Int) ≤ (j : Int) := by omega
    have i1 : (j : Int) < (xs.length : Int) := by omega
    have i2 : (j : Int) < (ys.length : Int) := by omega
    cases hpj : partSame xs[j] ys[j]
    ·have Hpj := Lib.hid hpj
     have g95 := fun x y xs ys w => guard95 .neq x y xs ys w
     have hne : ∀ w, (binOp .neq 95 (.agg #[.string xs[j].name, .int .i64 xs[j].type]) (.agg #[.string ys[j].name, .int .i64 ys[j].type])).run Tryz.prog w = .ok (.bool true) w := fun w => by
      rw [neq_part]; have h := hpj; rw [← partB_eq] at h; rw [h]; rfl
     clear hpj
     go_wp2_with fail
     go_quiet (fail)
     go_wp2_with fail
     go_ret
     exact ⟨by rw [eqF_no hlt hlt' Hpj.out]; rfl, hx.drewN _⟩
    ·have Hpj := Lib.hid hpj
     have g95 := fun x y xs ys w => guard95 .neq x y xs ys w
     have hne : ∀ w, (binOp .neq 95 (.agg #[.string xs[j].name, .int .i64 xs[j].type]) (.agg #[.string ys[j].name, .int .i64 ys[j].type])).run Tryz.prog w = .ok (.bool false) w := fun w => by
      rw [neq_part]; have h := hpj; rw [← partB_eq] at h; rw [h]; rfl
     clear hpj
     go_wp2_with fail
     go_quiet (fail)
     go_wp2_with fail
     go_roundw
     case rel => exact ⟨j + 1, by omega, by go_num, hx.drewN _, fun i h h' hi => by
       by_cases e : i = j
       ·subst e; exact Hpj.out
       ·exact hno.out i h h' (by omega)⟩
     case measure => simp [intOf]; omega
   ·go_wp2_with fail
    go_ret
    exact ⟨by rw [eqF_yes Hl.out hlt hno.out]; rfl, hx⟩
 ·have Hl := Lib.hid hl
  have hb : ((xs.length : Int) != (ys.length : Int)) = true := by simp; omega
  clear hl
  go_enter Tryz.func82, Tryz.ntmps82
  go_wp2_with fail
  go_ret
  exact ⟨by rw [eqF_len Hl.out]; rfl, Ext.refl _⟩
theorem eqF_ints (xs ys : List Int) : eqF (fun x y => x == y) xs ys = decide (xs = ys) := by
 rw [Bool.eq_iff_iff, decide_eq_true_iff, eqF_iff]
 constructor
 ·rintro ⟨h1, h2⟩
  refine List.ext_getElem h1 fun i a b => ?_
  have := h2 i a b
  exact eq_of_beq this
 ·rintro rfl
  exact ⟨rfl, fun i _ _ => by simp⟩
set_option maxRecDepth 100000 in
set_option maxHeartbeats 4000000 in
theorem sigs_any (w : World) (a b : Method) (A B A2 B2 : Option Addr) (c d c2 d2 : Nat)
  (k1 : Sl intE w (.slice A a.args.length c) a.args) (k2 : Sl intE w (.slice B b.args.length d) b.args) (ka : a.args.length ≤ 1048576) (kb : b.args.length ≤ 1048576)
  (h1 : Sl strE w (.slice A2 a.raises.length c2) a.raises) (h2 : Sl strE w (.slice B2 b.raises.length d2) b.raises) (hn : a.raises.length ≤ 1048576) (hm : b.raises.length ≤ 1048576) :
  Calls Tryz.prog 79 #[.agg #[.string a.name, .slice A a.args.length c, .int .i64 a.result, .slice A2 a.raises.length c2, .string a.proc], .agg #[.string b.name, .slice B b.args.length d, .int .i64 b.result, .slice B2 b.raises.length d2, .string b.proc]] w
   (Ret w (.bool (methSame a b))) := by
 have he := fun (w' : World) (hx : Ext w w') => equal_str w' _ _ _ _ (h1.mono hx) (h2.mono hx) hn hm
 have hi := fun (w' : World) (hx : Ext w w') => equal_int w' _ _ _ _ (k1.mono hx) (k2.mono hx) ka kb
 rw [eqF_ints] at hi
 change ∀ w', _ → Calls _ _ _ _ (Ret w' (.bool (eqF strEq a.raises b.raises))) at he
 have hr0 : methSame a b = (strEq a.name b.name && (strEq a.proc b.proc && (decide (a.result = b.result) && (decide (a.args = b.args) && eqF strEq a.raises b.raises)))) := rfl
 rw [hr0]
 clear hr0 h1 h2 k1 k2
 generalize eqF strEq a.raises b.raises = r at he ⊢
 generalize decide (a.args = b.args) = s at hi ⊢
 have He := Lib.hid he
 have Hi := Lib.hid hi
 clear he hi hn hm ka kb
 cases c1 : strEq a.name b.name
 ·have c1' : (a.name.toList == b.name.toList) = false := c1
  clear c1
  go_enter Tryz.func79, Tryz.ntmps79
  go_wp2_with fail
  go_ret
  exact ⟨rfl, ((Ext.refl _).alloc _).alloc _⟩
 ·have c1' : (a.name.toList == b.name.toList) = true := c1
  clear c1
  cases c2' : strEq a.proc b.proc
  ·have c3' : (a.proc.toList == b.proc.toList) = false := c2'
   clear c2'
   go_enter Tryz.func79, Tryz.ntmps79
   go_wp2_with fail
   go_ret
   exact ⟨rfl, ((Ext.refl _).alloc _).alloc _⟩
  ·have c3' : (a.proc.toList == b.proc.toList) = true := c2'
   clear c2'
   by_cases c4 : a.result = b.result
   ·have c5 : (a.result == b.result) = true := by simp [c4]
    rw [decide_eq_true c4]
    clear c4
    cases s with
    | false =>
     go_enter Tryz.func79, Tryz.ntmps79
     go_wp2_with fail
     refine (Hi.out _ (((Ext.refl _).alloc _).alloc _)).mono ?_
     rintro e w1 ⟨rfl, hx1⟩
     go_wp2_with fail
     go_ret
     exact ⟨rfl, (((Ext.refl _).alloc _).alloc _).trans hx1⟩
    | true =>
     have hcl := fun w1 (hx : Ext w w1) => He.out w1 hx
     have l0 := heap_alloc_self (w.alloc (.cells #[.string a.name, .slice A a.args.length c, .int .i64 a.result, .slice A2 a.raises.length c2, .string a.proc] 74)) (.cells #[.string b.name, .slice B b.args.length d, .int .i64 b.result, .slice B2 b.raises.length d2, .string b.proc] 74)
     have m0 := ((Ext.refl _).alloc (.cells #[.string b.name, .slice B b.args.length d, .int .i64 b.result, .slice B2 b.raises.length d2, .string b.proc] 74)).heap (heap_alloc_self w (.cells #[.string a.name, .slice A a.args.length c, .int .i64 a.result, .slice A2 a.raises.length c2, .string a.proc] 74))
     rw [World.size_alloc] at l0
     have L0 := Lib.hid l0
     have M0 := Lib.hid m0
     clear l0 m0 hcl
     go_enter Tryz.func79, Tryz.ntmps79
     go_wp2_with fail
     refine (Hi.out _ (((Ext.refl _).alloc _).alloc _)).mono ?_
     rintro e w1 ⟨rfl, hx1⟩
     have e3 := heap_cell (hx1.heap M0.out) 3 _ rfl
     have g3 := heap_cell (hx1.heap L0.out) 3 _ rfl
     have Hx1 := Lib.hid ((((Ext.refl _).alloc _).alloc _).trans hx1)
     clear hx1
     go_wp2_with fail
     refine (He.out _ Hx1.out).mono ?_
     rintro e w2 ⟨rfl, hx2⟩
     go_wp2_with fail
     go_ret
     exact ⟨rfl, Hx1.out.trans hx2⟩
   ·have c5 : (a.result == b.result) = false := by simpa using c4
    rw [decide_eq_false c4]
    clear c4
    go_enter Tryz.func79, Tryz.ntmps79
    go_wp2_with fail
    go_ret
    exact ⟨rfl, ((Ext.refl _).alloc _).alloc _⟩
theorem pred79 (w : World) (xs ys : List Method) (hx : ∀ m ∈ xs, MethodSmall m) (hy : ∀ m ∈ ys, MethodSmall m) : Pred2 methodE w 79 #[] xs ys methSame :=
 ⟨enters_of Tryz.func79 (by kernel_rfl) rfl, by
  intro x mx y my w' A B hxt hA hB
  obtain ⟨cs, ⟨va, vr, rfl, ha, hr⟩, rfl⟩ := hA
  obtain ⟨ds, ⟨ua, ur, rfl, ga, gr⟩, rfl⟩ := hB
  obtain ⟨A1, c1, e1⟩ := Sl.len ha
  obtain ⟨A2, c2, e2⟩ := Sl.len hr
  obtain ⟨B1, d1, e3⟩ := Sl.len ga
  obtain ⟨B2, d2, e4⟩ := Sl.len gr
  subst e1 e2 e3 e4
  have h := sigs_any w' x y A1 B1 A2 B2 c1 d1 c2 d2 ha ga (hx x mx).2.2.1 (hy y my).2.2.1 hr gr (hx x mx).2.2.2.1 (hy y my).2.2.2.1
  simpa only [pack, Array.append_empty] using h⟩
set_option maxRecDepth 100000 in
set_option maxHeartbeats 2000000 in
theorem equalFunc_ty (g : Nat) (cb : Array Value) (w : World) (v u : Value) (xs ys : List Ty) (p : Ty → Ty → Bool) (hv : Sl tyE w v xs) (hu : Sl tyE w u ys) (hn : xs.length ≤ 1048576) (hm : ys.length ≤ 1048576)
  (hp : Pred2 tyE w g cb xs ys p) :
  Calls Tryz.prog 76 #[v, u, .func (.func g) #[] cb] w (Ret w (.bool (eqF p xs ys))) := by
 obtain ⟨A, cap, rfl, hs⟩ := hv.ty
 obtain ⟨B, cbp, rfl, ht⟩ := hu.ty
 have eg : ∀ args w, (callFunc g args).run Tryz.prog w = .ok (.enter g args) w := hp.1
 have Hp := Lib.hid hp.2
 have Hs := Lib.hid hs
 have Ht := Lib.hid ht
 clear hp hs hv ht hu
 by_cases hl : xs.length = ys.length
 ·have Hl := Lib.hid hl
  have hb : ((xs.length : Int) != (ys.length : Int)) = false := by simp [hl]
  have hle : xs.length ≤ ys.length := by omega
  clear hl
  go_enter Tryz.func76, Tryz.ntmps76
  go_wp2_with fail
  go_loopw [17] (fun k wr => ∃ j : Nat, j ≤ xs.length ∧ k = .int .i64 j ∧ Ext w wr ∧ Hid (∀ i (h : i < xs.length) (h' : i < ys.length), i < j → p xs[i] ys[i] = true)) (fun k _ => xs.length - (intOf k).toNat)
  case atStart => exact ⟨0, by omega, by simp, Ext.refl _, fun i _ _ h => by omega⟩
  case round =>
   obtain ⟨j, hj, rfl, hx, hno⟩ := hrel
   by_cases hlt : j < xs.length
   ·have hlt' : j < ys.length := by omega
    obtain ⟨b, off, vp, vm, vo, rfl, hat, hof⟩ := Hs.out j hlt
    obtain ⟨c, off2, up, um, uo, rfl, hat2, hof2⟩ := Ht.out j hlt'
    obtain ⟨A1, c1, e1⟩ := hof.parts.len
    obtain ⟨A2, c2, e2⟩ := hof.methods.len
    obtain ⟨A3, c3, e3⟩ := hof.overs.len
    obtain ⟨B1, p1, e4⟩ := hof2.parts.len
    obtain ⟨B2, p2, e5⟩ := hof2.methods.len
    obtain ⟨B3, p3, e6⟩ := hof2.overs.len
    subst e1 e2 e3 e4 e5 e6
    have Hof := Lib.hid hof
    have Hof2 := Lib.hid hof2
    obtain ⟨d0, d1, d2, d3, d4, d5, d6, d7, d8, d9⟩ := hat.mono hx
    obtain ⟨f0, f1, f2, f3, f4, f5, f6, f7, f8, f9⟩ := hat2.mono hx
    have hb1 := cell_lt d0
    have hb2 := cell_lt f0
    have i0 : (0 : Int) ≤ (j : Int) := by omega
    have i1 : (j : Int) < (xs.length : Int) := by omega
    have i2 : (j : Int) < (ys.length : Int) := by omega
    have hpq := Hp.out xs[j] (List.getElem_mem hlt) ys[j] (List.getElem_mem hlt')
    have HPQ := Lib.hid hpq
    have hyes := fun (h : p xs[j] ys[j] = true) i (h1 : i < xs.length) (h2 : i < ys.length) (hi : i < j + 1) => show p xs[i] ys[i] = true from by
     by_cases e : i = j
     ·subst e; exact h
     ·exact hno.out i h1 h2 (by omega)
    have hno2 := fun (h : p xs[j] ys[j] = false) => eqF_no hlt hlt' h
    have Hyes := Lib.hid hyes
    have Hno2 := Lib.hid hno2
    clear hpq hof hof2 hat hat2 hyes hno2 hno
    generalize xs[j] = x at *
    generalize ys[j] = y at *
    go_wp2_with fail
    refine (HPQ.out _ _ _ ((hx.alloc _).alloc _) ⟨_, ⟨_, _, _, rfl, Hof.out.parts.mono ((hx.alloc _).alloc _), Hof.out.methods.mono ((hx.alloc _).alloc _), Hof.out.overs.mono ((hx.alloc _).alloc _)⟩, rfl⟩ ⟨_, ⟨_, _, _, rfl, Hof2.out.parts.mono ((hx.alloc _).alloc _), Hof2.out.methods.mono ((hx.alloc _).alloc _), Hof2.out.overs.mono ((hx.alloc _).alloc _)⟩, rfl⟩).mono ?_
    rintro e w1 ⟨rfl, hx1⟩
    have hx2 := ((hx.alloc _).alloc _).trans hx1
    clear hx1 d0 d1 d2 d3 d4 d5 d6 d7 d8 d9 f0 f1 f2 f3 f4 f5 f6 f7 f8 f9
    cases hpj : p x y
    ·have Hpj := Lib.hid (Hno2.out hpj)
     clear hpj
     go_wp2_with fail
     go_ret
     exact ⟨by rw [Hpj.out]; rfl, hx2⟩
    ·have Hpj := Lib.hid (Hyes.out hpj)
     clear hpj
     go_wp2_with fail
     go_roundw
     case rel => exact ⟨j + 1, by omega, by go_num, hx2, Hpj⟩
     case measure => simp [intOf]; omega
   ·go_wp2_with fail
    go_ret
    exact ⟨by rw [eqF_yes Hl.out hlt hno.out]; rfl, hx⟩
 ·have Hl := Lib.hid hl
  have hb : ((xs.length : Int) != (ys.length : Int)) = true := by simp; omega
  clear hl
  go_enter Tryz.func76, Tryz.ntmps76
  go_wp2_with fail
  go_ret
  exact ⟨by rw [eqF_len Hl.out]; rfl, Ext.refl _⟩
end Go.Proofs.YtldnjnnhfeobdaaGreatDoor
