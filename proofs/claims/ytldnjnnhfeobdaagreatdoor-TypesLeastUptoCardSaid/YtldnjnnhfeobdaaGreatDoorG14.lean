/- Parts of the proof, joined: Graphs that are equal, place by place. No program. No condition; Contract of the reference: two graphs are equal. Conditions: tidy graphs. -/
import Derived.Test.YtldnjnnhfeobdaaGreatDoorG03
import Derived.Test.YtldnjnnhfeobdaaGreatDoorG08
namespace Go.Proofs.YtldnjnnhfeobdaaGreatDoor
set_option linter.all false
set_option linter.unusedSimpArgs false
set_option linter.unusedVariables false
open Go.RowKit

theorem eqF_at {α : Type} {p : α → α → Bool} {xs ys : List α} (h : eqF p xs ys = true) {j : Nat} (h1 : j < xs.length) (h2 : j < ys.length) : p xs[j] ys[j] = true := by
  cases hp : p xs[j] ys[j] with
  | true => rfl
  | false => rw [eqF_no h1 h2 hp] at h; cases h
theorem eqF_iff {α : Type} {p : α → α → Bool} {xs ys : List α} : eqF p xs ys = true ↔ xs.length = ys.length ∧ ∀ i (h1 : i < xs.length) (h2 : i < ys.length), p xs[i] ys[i] = true :=
  ⟨fun h => ⟨eqF_length h, fun i h1 h2 => eqF_at h h1 h2⟩, fun h => eqF_yes (j := xs.length) h.1 (by omega) fun i h1 h2 _ => h.2 i h1 h2⟩
def partSame (p q : Part) : Bool := strEq p.name q.name && decide (p.type = q.type)
def methSame (m n : Method) : Bool := strEq m.name n.name && (strEq m.proc n.proc && (decide (m.result = n.result) && (decide (m.args = n.args) && eqF strEq m.raises n.raises)))
def tySame (s t : Ty) : Bool := (plainEqB s t && decide (s.super = t.super)) && (eqF partSame s.parts t.parts && (eqF methSame s.methods t.methods && eqF overEq s.overs t.overs))
def sameGr (g h : Graph) : Bool := eqF tySame g h
/-- the same, as the reference asks it -/
def methR (m n : Method) : Bool := decide (m.result = n.result) && decide (m.args = n.args)
def tySameR (s t : Ty) : Bool := agreeT s t && (decide (s.super = t.super) && (eqF partSame s.parts t.parts && eqF methR s.methods t.methods))
theorem methSame_iff {m n : Method} : methSame m n = true ↔ sameMethodB m n = true ∧ methR m n = true := by
  rw [sameMethodB_iff]
  unfold methSame methR
  simp only [Bool.and_eq_true, decide_eq_true_eq, strEq_iff]
  constructor
  · rintro ⟨h1, h2, h3, h4, h5⟩
    exact ⟨⟨h1, h2, by rw [h4], by rw [h3], h5⟩, h3, h4⟩
  · rintro ⟨⟨h1, h2, _, _, h5⟩, h3, h4⟩
    exact ⟨h1, h2, h3, h4, h5⟩
theorem partSame_eq {p q : Part} (h : partSame p q = true) : partEq p q = true := by
  unfold partSame at h
  rw [partEq_eq]
  simp only [Bool.and_eq_true] at h
  exact h.1
theorem tySameR_eq (s t : Ty) : tySameR s t = tySame s t := by
  rw [Bool.eq_iff_iff]
  unfold tySameR tySame
  simp only [Bool.and_eq_true, agreeT_iff, decide_eq_true_eq]
  constructor
  · rintro ⟨⟨h1, _, h3, h4⟩, h5, h6, h7⟩
    refine ⟨⟨h1, h5⟩, h6, ?_, h4⟩
    rw [eqF_iff] at h3 h7 ⊢
    exact ⟨h3.1, fun i a b => methSame_iff.2 ⟨h3.2 i a b, h7.2 i a b⟩⟩
  · rintro ⟨⟨h1, h5⟩, h6, h7, h4⟩
    refine ⟨⟨h1, ?_, ?_, h4⟩, h5, h6, ?_⟩
    · rw [eqF_iff] at h6 ⊢; exact ⟨h6.1, fun i a b => partSame_eq (h6.2 i a b)⟩
    · rw [eqF_iff] at h7 ⊢; exact ⟨h7.1, fun i a b => (methSame_iff.1 (h7.2 i a b)).1⟩
    · rw [eqF_iff] at h7 ⊢; exact ⟨h7.1, fun i a b => (methSame_iff.1 (h7.2 i a b)).2⟩
theorem eqF_refl {α : Type} {p : α → α → Bool} (hp : ∀ x, p x x = true) (xs : List α) : eqF p xs xs = true := eqF_iff.2 ⟨rfl, fun i _ _ => hp _⟩
theorem strEq_refl (s : ByteArray) : strEq s s = true := strEq_iff.2 rfl
theorem overEq_refl (o : Over) : overEq o o = true := by rw [overEq_eq, strEq_refl, strEq_refl]; rfl
theorem partSame_refl (p : Part) : partSame p p = true := by unfold partSame; rw [strEq_refl]; simp
theorem methSame_refl (m : Method) : methSame m m = true := by unfold methSame; rw [strEq_refl, strEq_refl, eqF_refl strEq_refl]; simp
theorem tySame_refl (t : Ty) : tySame t t = true := by
  unfold tySame
  rw [eqF_refl partSame_refl, eqF_refl methSame_refl, eqF_refl overEq_refl]
  have : plainEqB t t = true := plainEqB_iff.2 ⟨rfl, rfl, rfl, rfl, rfl, rfl⟩
  rw [this]; simp
theorem sameGr_refl (g : Graph) : sameGr g g = true := eqF_refl tySame_refl g
/-! ### why it is not so -/
theorem sameR_no1 {s t : Ty} (h : agreeT s t = false) : tySame s t = false := by rw [← tySameR_eq]; unfold tySameR; rw [h]; rfl
theorem sameR_no2 {s t : Ty} (h : ¬ s.super = t.super) : tySame s t = false := by rw [← tySameR_eq]; unfold tySameR; rw [decide_eq_false h]; simp
theorem sameR_no3 {s t : Ty} (h : eqF partSame s.parts t.parts = false) : tySame s t = false := by rw [← tySameR_eq]; unfold tySameR; rw [h]; simp
theorem sameR_no4 {s t : Ty} (h : eqF methR s.methods t.methods = false) : tySame s t = false := by rw [← tySameR_eq]; unfold tySameR; rw [h]; simp
theorem sameR_yes {s t : Ty} (h1 : agreeT s t = true) (h2 : s.super = t.super) (h3 : eqF partSame s.parts t.parts = true) (h4 : eqF methR s.methods t.methods = true) : tySame s t = true := by
  rw [← tySameR_eq]; unfold tySameR; rw [h1, decide_eq_true h2, h3, h4]; rfl
theorem ints_no {xs ys : List Int} {j : Nat} (h1 : j < xs.length) (h2 : j < ys.length) (h : ¬ xs[j] = ys[j]) : decide (xs = ys) = false := by
  rw [decide_eq_false_iff_not]
  rintro rfl
  exact h rfl
theorem ints_yes {xs ys : List Int} {j : Nat} (hl : xs.length = ys.length) (hj : ¬ j < xs.length) (h : ∀ i (h1 : i < xs.length) (h2 : i < ys.length), i < j → xs[i] = ys[i]) : decide (xs = ys) = true := by
  rw [decide_eq_true_iff]
  exact List.ext_getElem hl fun i h1 h2 => h i h1 h2 (by omega)
end Go.Proofs.YtldnjnnhfeobdaaGreatDoor
/- Contract of the reference: two graphs are equal. Conditions: tidy graphs. -/
namespace Go.Proofs.YtldnjnnhfeobdaaGreatDoor
set_option linter.all false
set_option linter.unusedSimpArgs false
set_option linter.unusedVariables false
open Go.RowKit Go.Shelf

theorem neq_part (a c : ByteArray) (b d : Int) (w : World) : (binOp .neq 95 (.agg #[.string a, .int .i64 b]) (.agg #[.string c, .int .i64 d])).run Tryz.prog w = .ok (.bool (!(a.toList == c.toList && b == d))) w := by
  have u9 := Tryz.underlying9
  have u3 := Tryz.underlying3
  have a9 := Tryz.isAgg9
  have z9 := Tryz.sizeOf9
  have a3 := Tryz.isAgg3
  have z3 := Tryz.sizeOf3
  have hS : Tryz.prog.underlying 95 = some (.struct (Tryz.prog.fieldsOf 95)) := by kernel_rfl
  have hp : Tryz.prog.stoodInHeld 95 = false := by kernel_rfl
  rw [run_neq_struct, show (10000 : Nat) = 9999 + 1 from rfl, run_equalIn_agg w 9999 95 _ _ hS hp]
  simp only [Program.fieldsOf, Tryz.underlying95]
  go_simp
  by_cases h1 : a.toList = c.toList <;> by_cases h2 : b = d <;> simp [h1, h2]
theorem guard95 (op : BinOp) (x y : Operand) (xs ys : Array Value) (w : World) : (eqGuard op 95 x y (.agg xs) (.agg ys)).run Tryz.prog w = .ok () w := run_eqGuard_agg w op 95 x y xs ys (by kernel_rfl)
set_option maxRecDepth 100000 in
set_option maxHeartbeats 16000000 in
theorem rsame_any (w : World) (u v : Value) (g h : Graph) (hg : Sl tyE w u g) (hh : Sl tyE w v h) (hT : Tidy g) (hT' : Tidy h) :
    Calls Tryz.prog 33 #[u, v] w (Ret w (.bool (sameGr g h))) := by
  obtain ⟨A, ca, rfl, hs⟩ := hg.ty
  obtain ⟨B, cb, rfl, ks⟩ := hh.ty
  have hn := hT.len
  have hm := hT'.len
  have Hs := Lib.hid hs
  have Ks := Lib.hid ks
  have Hty := Lib.hid hT.ty
  have Kty := Lib.hid hT'.ty
  clear hs ks hg hh hT hT'
  by_cases hl : g.length = h.length
  case neg =>
    have e : sameGr g h = false := eqF_len hl
    have q : ((g.length : Int) != (h.length : Int)) = true := by rw [bne_iff_ne]; omega
    have q2 : ((g.length : Int) == (h.length : Int)) = false := by rw [beq_eq_false_iff_ne]; omega
    have q3 : ¬ (g.length : Int) = (h.length : Int) := by omega
    rw [e]
    go_enter Tryz.func33, Tryz.ntmps33
    go_wp2_with fail
    go_ret
    exact ⟨rfl, Ext.refl _⟩
  have q : ((g.length : Int) != (h.length : Int)) = false := by rw [bne_eq_false_iff_eq]; omega
  have q2 : ((g.length : Int) == (h.length : Int)) = true := by rw [beq_iff_eq]; omega
  have Hl := Lib.hid hl
  clear hl
  go_enter Tryz.func33, Tryz.ntmps33
  go_wp2_with fail
  clear q q2
  go_loopw [5] (fun u wr => ∃ k : Nat, k ≤ g.length ∧ u = .int .i64 k ∧ Hid (Ext w wr) ∧ Hid (∀ i (h1 : i < g.length) (h2 : i < h.length), i < k → tySame g[i] h[i] = true)) (fun u _ => g.length - (intOf u).toNat)
  case atStart => exact ⟨0, by omega, rfl, Lib.hid (Ext.refl _), Lib.hid (fun i _ _ h => by omega)⟩
  case round =>
    obtain ⟨k, hk, rfl, Hx, Hno⟩ := hrel
    by_cases hlt : k < g.length
    · have hlt2 : k < h.length := by have := Hl.out; omega
      obtain ⟨b, off, xp, xm, xo, rfl, hat, hof⟩ := Hs.out k hlt
      obtain ⟨b', off', yp, ym, yo, rfl, hat', hof'⟩ := Ks.out k hlt2
      have hsx := (Hty.out _ (List.getElem_mem hlt)).1
      have hsy := (Kty.out _ (List.getElem_mem hlt2)).1
      have Hno1 : Hid (tySame g[k] h[k] = false → sameGr g h = false) := Lib.hid (fun h' => eqF_no (p := tySame) hlt hlt2 h')
      have Hyes1 := Lib.hid (fun (h' : tySame g[k] h[k] = true) i (h1 : i < g.length) (h2 : i < h.length) (hik : i < k + 1) => if e : i = k then (by subst e; exact h' : tySame g[i] h[i] = true) else Hno.out i h1 h2 (by omega))
      have i0 : (0 : Int) ≤ (k : Int) := by omega
      have i1 : (k : Int) < (g.length : Int) := by omega
      have i2 : (k : Int) < (h.length : Int) := by omega
      generalize g[k] = x at *
      generalize h[k] = y at *
      obtain ⟨A1, a1, e1⟩ := hof.parts.len
      obtain ⟨A2, a2, e2⟩ := hof.methods.len
      obtain ⟨A3, a3, e3⟩ := hof.overs.len
      subst e1 e2 e3
      obtain ⟨B1, b1, e1⟩ := hof'.parts.len
      obtain ⟨B2, b2, e2⟩ := hof'.methods.len
      obtain ⟨B3, b3, e3⟩ := hof'.overs.len
      subst e1 e2 e3
      have hcall := fun w' (hx : Ext w w') => ragree_any w' x y _ _ _ _ _ _ hsx hsy (hof.mono hx) (hof'.mono hx)
      unfold tyV at hcall
      have Hcall := Lib.hid hcall
      obtain ⟨d0, d1, d2, d3, d4, d5, d6, d7, d8, d9⟩ := hat.mono Hx.out
      obtain ⟨f0, f1, f2, f3, f4, f5, f6, f7, f8, f9⟩ := hat'.mono Hx.out
      have ld := cell_lt d0
      have lf := cell_lt f0
      have Hof := Lib.hid hof
      have Hof' := Lib.hid hof'
      have Hsx := Lib.hid hsx
      have Hsy := Lib.hid hsy
      have x1 := hsx.parts
      have x2 := hsx.methods
      have y1 := hsy.parts
      have y2 := hsy.methods
      clear hcall hof hof' hat hat' hsx hsy Hno
      have hb1 := heap_alloc_self wr (.cells #[.int .u8 x.kind, .int .i64 x.low, .int .i64 x.high, .bool x.branded, .string x.brand, .string x.opaq, .int .i64 x.super, .slice A1 x.parts.length a1, .slice A2 x.methods.length a2, .slice A3 x.overs.length a3] 42)
      have hb2 := heap_alloc_self (wr.alloc (.cells #[.int .u8 x.kind, .int .i64 x.low, .int .i64 x.high, .bool x.branded, .string x.brand, .string x.opaq, .int .i64 x.super, .slice A1 x.parts.length a1, .slice A2 x.methods.length a2, .slice A3 x.overs.length a3] 42)) (.cells #[.int .u8 y.kind, .int .i64 y.low, .int .i64 y.high, .bool y.branded, .string y.brand, .string y.opaq, .int .i64 y.super, .slice B1 y.parts.length b1, .slice B2 y.methods.length b2, .slice B3 y.overs.length b3] 42)
      rw [World.size_alloc] at hb2
      have Hbx := Lib.hid (show TyBox ((wr.alloc (.cells #[.int .u8 x.kind, .int .i64 x.low, .int .i64 x.high, .bool x.branded, .string x.brand, .string x.opaq, .int .i64 x.super, .slice A1 x.parts.length a1, .slice A2 x.methods.length a2, .slice A3 x.overs.length a3] 42)).alloc (.cells #[.int .u8 y.kind, .int .i64 y.low, .int .i64 y.high, .bool y.branded, .string y.brand, .string y.opaq, .int .i64 y.super, .slice B1 y.parts.length b1, .slice B2 y.methods.length b2, .slice B3 y.overs.length b3] 42)) wr.heap.size x (.slice A1 x.parts.length a1) (.slice A2 x.methods.length a2) (.slice A3 x.overs.length a3) from ((Ext.refl _).alloc _).heap hb1)
      have Hby := Lib.hid (show TyBox ((wr.alloc (.cells #[.int .u8 x.kind, .int .i64 x.low, .int .i64 x.high, .bool x.branded, .string x.brand, .string x.opaq, .int .i64 x.super, .slice A1 x.parts.length a1, .slice A2 x.methods.length a2, .slice A3 x.overs.length a3] 42)).alloc (.cells #[.int .u8 y.kind, .int .i64 y.low, .int .i64 y.high, .bool y.branded, .string y.brand, .string y.opaq, .int .i64 y.super, .slice B1 y.parts.length b1, .slice B2 y.methods.length b2, .slice B3 y.overs.length b3] 42)) (wr.heap.size + 1) y (.slice B1 y.parts.length b1) (.slice B2 y.methods.length b2) (.slice B3 y.overs.length b3) from hb2)
      have Hxy := Lib.hid ((Hx.out.alloc (.cells #[.int .u8 x.kind, .int .i64 x.low, .int .i64 x.high, .bool x.branded, .string x.brand, .string x.opaq, .int .i64 x.super, .slice A1 x.parts.length a1, .slice A2 x.methods.length a2, .slice A3 x.overs.length a3] 42)).alloc (.cells #[.int .u8 y.kind, .int .i64 y.low, .int .i64 y.high, .bool y.branded, .string y.brand, .string y.opaq, .int .i64 y.super, .slice B1 y.parts.length b1, .slice B2 y.methods.length b2, .slice B3 y.overs.length b3] 42))
      clear hb1 hb2
      have lag := @agreeT_iff x y
      have Lag := Lib.hid lag
      clear lag
      cases hag : agreeT x y with
      | false =>
        as_aux_lemma =>
          rw [hag] at Hcall
          have Hv := Lib.hid (Hno1.out (sameR_no1 hag))
          go_wp2_with fail
          refine (Hcall.out _ Hxy.out).mono ?_
          rintro e w5 ⟨rfl, hx5⟩
          go_wp2_with fail
          go_ret
          rw [Hv.out]
          exact ⟨rfl, Hxy.out.trans hx5⟩
      | true =>
        rw [hag] at Hcall
        have Hag := Lib.hid hag
        clear hag
        by_cases hsu : x.super = y.super
        case neg =>
          as_aux_lemma =>
            have s1 : (x.super != y.super) = true := by rw [bne_iff_ne]; exact hsu
            have s2 : (x.super == y.super) = false := by rw [beq_eq_false_iff_ne]; exact hsu
            have Hv := Lib.hid (Hno1.out (sameR_no2 hsu))
            go_wp2_with fail
            refine (Hcall.out _ Hxy.out).mono ?_
            rintro e w5 ⟨rfl, hx5⟩
            have g6 := (Hbx.out.ext hx5).at.c6
            have k6 := (Hby.out.ext hx5).at.c6
            have lg := cell_lt g6
            have lk := cell_lt k6
            simp only [Nat.zero_add] at g6 k6
            go_wp2_with fail
            go_ret
            rw [Hv.out]
            exact ⟨rfl, Hxy.out.trans hx5⟩
        have s1 : (x.super != y.super) = false := by rw [bne_eq_false_iff_eq]; exact hsu
        have s2 : (x.super == y.super) = true := by rw [beq_iff_eq]; exact hsu
        have Hsu := Lib.hid hsu
        clear hsu
        obtain ⟨_, la1, la2, la3⟩ := Lag.out.1 Hag.out
        have Lp := Lib.hid (eqF_length la1)
        have Lm := Lib.hid (eqF_length la2)
        have Hla2 := Lib.hid la2
        clear la1 la2 la3
        go_wp2_with fail
        refine (Hcall.out _ Hxy.out).mono ?_
        rintro e w5 ⟨rfl, hx5⟩
        have g6 := (Hbx.out.ext hx5).at.c6
        have k6 := (Hby.out.ext hx5).at.c6
        have lg := cell_lt g6
        have lk := cell_lt k6
        simp only [Nat.zero_add] at g6 k6
        clear d0 d1 d2 d3 d4 d5 d6 d7 d8 d9 f0 f1 f2 f3 f4 f5 f6 f7 f8 f9 ld lf
        have Hb5x := Lib.hid (Hbx.out.ext hx5)
        have Hb5y := Lib.hid (Hby.out.ext hx5)
        have Hx5 := Lib.hid (Hxy.out.trans hx5)
        clear hx5 Hcall
        go_wp2_with fail
        clear g6 k6 lg lk s1 s2 Hbx Hby Hxy
        generalize wr.heap.size + 1 = by_ at *
        generalize wr.heap.size = bx_ at *
        obtain ⟨wz, rfl⟩ : ∃ wz : World, wz = wr := ⟨_, rfl⟩
        go_loopw [8] (fun u wq => ∃ j : Nat, j ≤ x.parts.length ∧ u = .int .i64 j ∧ Hid (Ext w5 wq) ∧ Hid (∀ i (h1 : i < x.parts.length) (h2 : i < y.parts.length), i < j → partSame x.parts[i] y.parts[i] = true)) (fun u _ => x.parts.length - (intOf u).toNat)
        case atStart => exact ⟨0, by omega, rfl, Lib.hid (Ext.refl _), Lib.hid (fun i _ _ h => by omega)⟩
        case round =>
          obtain ⟨j, hj, rfl, Hx6, Hnp⟩ := hrel
          obtain ⟨_, _, _, _, _, _, _, d7, d8, _⟩ := (Hb5x.out.ext Hx6.out).at
          obtain ⟨_, _, _, _, _, _, _, f7, f8, _⟩ := (Hb5y.out.ext Hx6.out).at
          simp only [Nat.zero_add] at d7 d8 f7 f8
          have lx := cell_lt d7
          have ly := cell_lt f7
          by_cases hjt : j < x.parts.length
          · have hjt2 : j < y.parts.length := by have := Lp.out; omega
            obtain ⟨Ap, cp, ep, xps⟩ := Hof.out.parts.part
            simp only [Value.slice.injEq] at ep
            obtain ⟨rfl, _, rfl⟩ := ep
            obtain ⟨Bp, cq, eq, yps⟩ := Hof'.out.parts.part
            simp only [Value.slice.injEq] at eq
            obtain ⟨rfl, _, rfl⟩ := eq
            obtain ⟨pb, po, rfl, p0, p1⟩ := xps j hjt
            obtain ⟨qb, qo, rfl, r0, r1⟩ := yps j hjt2
            replace p0 := (Hx5.out.trans Hx6.out).cell p0
            replace p1 := (Hx5.out.trans Hx6.out).cell p1
            replace r0 := (Hx5.out.trans Hx6.out).cell r0
            replace r1 := (Hx5.out.trans Hx6.out).cell r1
            have l0 := cell_lt p0
            have l1 := cell_lt r0
            have j0 : (0 : Int) ≤ (j : Int) := by omega
            have j1 : (j : Int) < (x.parts.length : Int) := by omega
            have j2 : (j : Int) < (y.parts.length : Int) := by omega
            have Hnp1 := Lib.hid (fun h' => Hno1.out (sameR_no3 (eqF_no (p := partSame) hjt hjt2 h')))
            have Hyp1 := Lib.hid (fun (h' : partSame x.parts[j] y.parts[j] = true) i (h1 : i < x.parts.length) (h2 : i < y.parts.length) (hik : i < j + 1) => if e : i = j then (by subst e; exact h' : partSame x.parts[i] y.parts[i] = true) else Hnp.out i h1 h2 (by omega))
            have Hdf := Lib.hid (show partSame x.parts[j] y.parts[j] = (x.parts[j].name.toList == y.parts[j].name.toList && x.parts[j].type == y.parts[j].type) from by unfold partSame strEq; rw [Bool.eq_iff_iff]; simp)
            clear xps yps
            generalize x.parts[j] = s at *
            generalize y.parts[j] = t at *
            have hneq := neq_part s.name t.name s.type t.type
            generalize hb : (s.name.toList == t.name.toList && s.type == t.type) = bb at hneq Hdf
            have hgu := guard95 BinOp.neq
            clear hb
            cases bb with
            | true =>
              as_aux_lemma =>
                have Hn := Lib.hid (Hyp1.out Hdf.out)
                go_wp2_with fail
                go_quiet (fail)
                go_wp2_with fail
                go_roundw
                case rel => exact ⟨j + 1, by omega, by go_num, Lib.hid (Hx6.out.drewN _), Hn⟩
                case measure => simp [intOf]; omega
            | false =>
              as_aux_lemma =>
                have Hv := Lib.hid (Hnp1.out Hdf.out)
                go_wp2_with fail
                go_quiet (fail)
                go_wp2_with fail
                go_ret
                rw [Hv.out]
                exact ⟨rfl, Hx5.out.trans (Hx6.out.drewN _)⟩
          · have Hparts := Lib.hid (eqF_yes (p := partSame) Lp.out (j := j) hjt (fun i h1 h2 h3 => Hnp.out i h1 h2 h3))
            have i3 : ¬ (j : Int) < (x.parts.length : Int) := by omega
            clear Hnp
            go_wp2_with fail
            go_loopw [9] (fun u wq => ∃ j : Nat, j ≤ x.methods.length ∧ u = .int .i64 j ∧ Hid (Ext w5 wq) ∧ Hid (∀ i (h1 : i < x.methods.length) (h2 : i < y.methods.length), i < j → methR x.methods[i] y.methods[i] = true)) (fun u _ => x.methods.length - (intOf u).toNat)
            case atStart => exact ⟨0, by omega, rfl, Hx6, Lib.hid (fun i _ _ h => by omega)⟩
            case round =>
              clear d7 d8 f7 f8 lx ly hj hjt i3 Hx6
              obtain ⟨j, hj, rfl, Hx6, Hnm⟩ := hrel
              obtain ⟨_, _, _, _, _, _, _, _, d8, _⟩ := (Hb5x.out.ext Hx6.out).at
              obtain ⟨_, _, _, _, _, _, _, _, f8, _⟩ := (Hb5y.out.ext Hx6.out).at
              simp only [Nat.zero_add] at d8 f8
              have lx := cell_lt d8
              have ly := cell_lt f8
              by_cases hjt : j < x.methods.length
              · have hjt2 : j < y.methods.length := by have := Lm.out; omega
                obtain ⟨Ap, cp, ep, xms⟩ := Hof.out.methods.method
                simp only [Value.slice.injEq] at ep
                obtain ⟨rfl, _, rfl⟩ := ep
                obtain ⟨Bp, cq, eq, yms⟩ := Hof'.out.methods.method
                simp only [Value.slice.injEq] at eq
                obtain ⟨rfl, _, rfl⟩ := eq
                obtain ⟨pb, po, sa, sr, rfl, hsa, hsr, m0, m1, m2, m3, m4⟩ := xms j hjt
                obtain ⟨qb, qo, ta, tr, rfl, hta, htr, n0, n1, n2, n3, n4⟩ := yms j hjt2
                replace m1 := (Hx5.out.trans Hx6.out).cell m1
                replace m2 := (Hx5.out.trans Hx6.out).cell m2
                replace m3 := (Hx5.out.trans Hx6.out).cell m3
                replace n1 := (Hx5.out.trans Hx6.out).cell n1
                replace n2 := (Hx5.out.trans Hx6.out).cell n2
                replace n3 := (Hx5.out.trans Hx6.out).cell n3
                have l0 := cell_lt m1
                have l1 := cell_lt n1
                have j0 : (0 : Int) ≤ (j : Int) := by omega
                have j1 : (j : Int) < (x.methods.length : Int) := by omega
                have j2 : (j : Int) < (y.methods.length : Int) := by omega
                have Hnm1 := Lib.hid (fun h' => Hno1.out (sameR_no4 (eqF_no (p := methR) hjt hjt2 h')))
                have Hym1 := Lib.hid (fun (h' : methR x.methods[j] y.methods[j] = true) i (h1 : i < x.methods.length) (h2 : i < y.methods.length) (hik : i < j + 1) => if e : i = j then (by subst e; exact h' : methR x.methods[i] y.methods[i] = true) else Hnm.out i h1 h2 (by omega))
                have Hal := Lib.hid (sameMethodB_iff.1 (eqF_at Hla2.out hjt hjt2)).2.2.1
                have hsm := (Hsx.out.method _ (List.getElem_mem hjt)).2.2.1
                clear xms yms m0 m4 n0 n4
                generalize x.methods[j] = s at *
                generalize y.methods[j] = t at *
                obtain ⟨Sa, sac, es⟩ := hsa.len
                obtain ⟨Sr, src, er⟩ := hsr.len
                obtain ⟨Ta, tac, et⟩ := hta.len
                obtain ⟨Tr, trc, etr⟩ := htr.len
                subst es er et etr
                have Hsa := Lib.hid hsa
                have Hta := Lib.hid hta
                clear hsa hsr hta htr
                have hb1 := heap_alloc_self wr (.cells #[.slice Sa s.args.length sac, .int .i64 s.result, .slice Sr s.raises.length src] 72)
                have hb2 := heap_alloc_self (wr.alloc (.cells #[.slice Sa s.args.length sac, .int .i64 s.result, .slice Sr s.raises.length src] 72)) (.cells #[.slice Ta t.args.length tac, .int .i64 t.result, .slice Tr t.raises.length trc] 72)
                rw [World.size_alloc] at hb2
                have Hb1 := Lib.hid (((Ext.refl _).alloc (.cells #[.slice Ta t.args.length tac, .int .i64 t.result, .slice Tr t.raises.length trc] 72)).heap hb1)
                have Hb2 := Lib.hid hb2
                have Hx7 := Lib.hid ((Hx6.out.alloc (.cells #[.slice Sa s.args.length sac, .int .i64 s.result, .slice Sr s.raises.length src] 72)).alloc (.cells #[.slice Ta t.args.length tac, .int .i64 t.result, .slice Tr t.raises.length trc] 72))
                clear hb1 hb2
                by_cases hre : s.result = t.result
                case neg =>
                  as_aux_lemma =>
                    have s1 : (s.result != t.result) = true := by rw [bne_iff_ne]; exact hre
                    have s2 : (s.result == t.result) = false := by rw [beq_eq_false_iff_ne]; exact hre
                    have Hv := Lib.hid (Hnm1.out (by unfold methR; rw [decide_eq_false hre]; rfl))
                    go_wp2_with fail
                    go_ret
                    rw [Hv.out]
                    exact ⟨rfl, Hx5.out.trans Hx7.out⟩
                have s1 : (s.result != t.result) = false := by rw [bne_eq_false_iff_eq]; exact hre
                have s2 : (s.result == t.result) = true := by rw [beq_iff_eq]; exact hre
                have Hre := Lib.hid hre
                clear hre
                go_wp2_with fail
                clear m1 m2 m3 n1 n2 n3 l0 l1 s1 s2
                generalize wr.heap.size + 1 = bt_ at *
                generalize wr.heap.size = bs_ at *
                generalize (wr.alloc (.cells #[.slice Sa s.args.length sac, .int .i64 s.result, .slice Sr s.raises.length src] 72)).alloc (.cells #[.slice Ta t.args.length tac, .int .i64 t.result, .slice Tr t.raises.length trc] 72) = w7 at *
                obtain ⟨wy, rfl⟩ : ∃ wy : World, wy = wr := ⟨_, rfl⟩
                go_loopw [12] (fun u wq => ∃ i : Nat, i ≤ s.args.length ∧ u = .int .i64 i ∧ Hid (Ext w7 wq) ∧ Hid (∀ n (h1 : n < s.args.length) (h2 : n < t.args.length), n < i → s.args[n] = t.args[n])) (fun u _ => s.args.length - (intOf u).toNat)
                case atStart => exact ⟨0, by omega, rfl, Lib.hid (Ext.refl _), Lib.hid (fun i _ _ h => by omega)⟩
                case round =>
                  obtain ⟨i, hi, rfl, Hx8, Hna⟩ := hrel
                  have c1 := heap_cell (Hx8.out.heap Hb1.out) 0 _ rfl
                  have c2 := heap_cell (Hx8.out.heap Hb2.out) 0 _ rfl
                  have lc1 := cell_lt c1
                  have lc2 := cell_lt c2
                  by_cases hit : i < s.args.length
                  · have hit2 : i < t.args.length := by have := Hal.out; omega
                    obtain ⟨Ap, cp, ep, sas⟩ := Hsa.out.int
                    simp only [Value.slice.injEq] at ep
                    obtain ⟨rfl, _, rfl⟩ := ep
                    obtain ⟨Bp, cq, eq, tas⟩ := Hta.out.int
                    simp only [Value.slice.injEq] at eq
                    obtain ⟨rfl, _, rfl⟩ := eq
                    obtain ⟨ab, ao, rfl, p0⟩ := sas i hit
                    obtain ⟨bb, bo, rfl, r0⟩ := tas i hit2
                    replace p0 := (Hx5.out.trans (Hx7.out.trans Hx8.out)).cell p0
                    replace r0 := (Hx5.out.trans (Hx7.out.trans Hx8.out)).cell r0
                    have l0 := cell_lt p0
                    have l1 := cell_lt r0
                    have k0 : (0 : Int) ≤ (i : Int) := by omega
                    have k1 : (i : Int) < (s.args.length : Int) := by omega
                    have k2 : (i : Int) < (t.args.length : Int) := by omega
                    have Hna1 := Lib.hid (fun h' : ¬ s.args[i] = t.args[i] => Hnm1.out (by unfold methR; rw [ints_no hit hit2 h']; simp))
                    have Hya1 := Lib.hid (fun (h' : s.args[i] = t.args[i]) n (h1 : n < s.args.length) (h2 : n < t.args.length) (hik : n < i + 1) => if e : n = i then (by subst e; exact h' : s.args[n] = t.args[n]) else Hna.out n h1 h2 (by omega))
                    clear sas tas
                    generalize s.args[i] = p at *
                    generalize t.args[i] = r at *
                    by_cases hpr : p = r
                    · as_aux_lemma =>
                        have Hn := Lib.hid (Hya1.out hpr)
                        have s1 : (p != r) = false := by rw [bne_eq_false_iff_eq]; exact hpr
                        have s2 : (p == r) = true := by rw [beq_iff_eq]; exact hpr
                        clear hpr
                        go_wp2_with fail
                        go_quiet (fail)
                        go_wp2_with fail
                        go_roundw
                        case rel => exact ⟨i + 1, by omega, by go_num, Lib.hid (Hx8.out.drewN _), Hn⟩
                        case measure => simp [intOf]; omega
                    · as_aux_lemma =>
                        have Hv := Lib.hid (Hna1.out hpr)
                        have s1 : (p != r) = true := by rw [bne_iff_ne]; exact hpr
                        have s2 : (p == r) = false := by rw [beq_eq_false_iff_ne]; exact hpr
                        clear hpr
                        go_wp2_with fail
                        go_quiet (fail)
                        go_wp2_with fail
                        go_ret
                        rw [Hv.out]
                        exact ⟨rfl, Hx5.out.trans (Hx7.out.trans (Hx8.out.drewN _))⟩
                  · as_aux_lemma =>
                      have Hn := Lib.hid (Hym1.out (by unfold methR; rw [decide_eq_true Hre.out, ints_yes Hal.out hit (fun n h1 h2 h3 => Hna.out n h1 h2 h3)]; rfl))
                      have k1 : ¬ (i : Int) < (s.args.length : Int) := by omega
                      clear Hna
                      go_wp2_with fail
                      go_roundw
                      case rel => exact ⟨j + 1, by omega, by go_num, Lib.hid (Hx7.out.trans Hx8.out), Hn⟩
                      case measure => simp [intOf]; omega
              · as_aux_lemma =>
                  have hmeths := eqF_yes (p := methR) Lm.out (j := j) hjt (fun i h1 h2 h3 => Hnm.out i h1 h2 h3)
                  have Hn := Lib.hid (Hyes1.out (sameR_yes Hag.out Hsu.out Hparts.out hmeths))
                  have k1 : ¬ (j : Int) < (x.methods.length : Int) := by omega
                  clear Hnm hmeths
                  go_wp2_with fail
                  go_roundw
                  case rel => exact ⟨k + 1, by omega, by go_num, Lib.hid (Hx5.out.trans Hx6.out), Hn⟩
                  case measure => simp [intOf]; omega
    · have Hv := Lib.hid (show sameGr g h = true from eqF_yes (p := tySame) Hl.out (j := k) hlt (fun i h1 h2 h3 => Hno.out i h1 h2 h3))
      have i1 : ¬ (k : Int) < (g.length : Int) := by omega
      go_wp2_with fail
      go_ret
      rw [Hv.out]
      exact ⟨rfl, Hx.out⟩
end Go.Proofs.YtldnjnnhfeobdaaGreatDoor
