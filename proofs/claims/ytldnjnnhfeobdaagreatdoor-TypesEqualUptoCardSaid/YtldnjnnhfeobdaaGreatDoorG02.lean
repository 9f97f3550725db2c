/- Parts of the proof, joined: Contracts: the rules on brands and parts. Conditions: lengths below 2^20; Contracts: the rules on references, arrays, records, ranges and opaque types. Conditions: lengths below 2^20; Contracts: the rules on records, ranges and opaque types. Conditions: lengths below 2^20; Regions that draw their order, whose operations read what lay before and call what leaves it: one walk in the order of the text. No condition; Contracts: the rule on opaque types. Conditions: lengths below 2^20; Contract: signatures. Conditions: lengths below 2^20; Contracts: what an object type has beside its brand. Conditions: lengths below 2^20; Contract: the rule on object types. Conditions: lengths below 2^20; Contract: the table of the rules. No condition; Plain theory: classes by refinement over an abstract graph. No program. No condition; Plain theory: the search for the least way that tells two types apart. No program. No condition; Plain functions on graphs: references, what is fine. No program. No condition; Plain functions on graphs: references, agreement, what is right, what is well-formed. No program. No condition. -/
import Derived.Deep.RegionWith
import Derived.Deep.DeepCutAuto
import Derived.Deep.CutBlock
import Derived.Laws.EntriesVeiled
import Derived.Test.YtldnjnnhfeobdaaGreatDoorG01
set_option linter.all false
set_option linter.unusedSimpArgs false
set_option linter.unusedVariables false
namespace Go.Proofs.YtldnjnnhfeobdaaGreatDoor
open Go.RowKit Go.Shelf
theorem heap_cell {w : World} {b : Nat} {c : Array Value} {t : TypeId} {fr : Nat × Nat} (h : w.heap[b]? = some (.cells c t fr)) (i : Nat) (v : Value) (hv : c[i]? = some v) : w.cell? ⟨b, i, none⟩ = some v := by
 simp [World.cell?, h, hv]
theorem heap_frozen {w : World} {b : Nat} {c : Array Value} {t : TypeId} (h : w.heap[b]? = some (.cells c t (0, 0))) (i : Nat) : w.frozen? ⟨b, i, none⟩ = false := by
 simp [World.frozen?, h]
theorem heap_set {w : World} {b : Nat} {c : Array Value} {t : TypeId} {fr : Nat × Nat} (h : w.heap[b]? = some (.cells c t fr)) (i : Nat) (v : Value) : (w.setCell ⟨b, i, none⟩ v).heap[b]? = some (.cells (c.setIfInBounds i v) t fr) := by
 simp [World.setCell, Array.getElem?_modify, h]
/-- a type in a box of the call's own -/
def TyBox (w : World) (b : Nat) (t : Ty) (vp vm vo : Value) : Prop :=
 w.heap[b]? = some (.cells #[.int .u8 t.kind, .int .i64 t.low, .int .i64 t.high, .bool t.branded, .string t.brand, .string t.opaq, .int .i64 t.super, vp, vm, vo] 42 (0, 0))
theorem TyBox.ext {w w' : World} {b : Nat} {t : Ty} {vp vm vo : Value} (h : TyBox w b t vp vm vo) (hx : Ext w w') : TyBox w' b t vp vm vo := hx.heap h
theorem TyBox.at {w : World} {b : Nat} {t : Ty} {vp vm vo : Value} (h : TyBox w b t vp vm vo) : TyAt w b 0 t vp vm vo :=
 ⟨heap_cell h 0 _ rfl, heap_cell h 1 _ rfl, heap_cell h 2 _ rfl, heap_cell h 3 _ rfl, heap_cell h 4 _ rfl, heap_cell h 5 _ rfl, heap_cell h 6 _ rfl, heap_cell h 7 _ rfl, heap_cell h 8 _ rfl, heap_cell h 9 _ rfl⟩
theorem TyBox.lt {w : World} {b : Nat} {t : Ty} {vp vm vo : Value} (h : TyBox w b t vp vm vo) : b < w.heap.size := (Array.getElem?_eq_some_iff.1 h).1
theorem toList_empty : ByteArray.empty.toList = [] := by rw [ByteArray.toList_eq]; rfl
theorem strEq_empty (s : ByteArray) : strEq s ByteArray.empty = s.toList.isEmpty := by
 unfold strEq
 rw [toList_empty]
 cases s.toList <;> rfl
def partBad (n : Nat) (p : Part) : Bool := !hasB n p.type
set_option maxRecDepth 100000 in
theorem branded1 (w : World) (B : Nat) (A : Option Addr) (n cap : Nat) (p : Part) (hn : n ≤ 1048576) (hc : w.cell? ⟨B, 0, none⟩ = some (.slice A n cap)) :
  Calls Tryz.prog 219 #[.agg #[.string p.name, .int .i64 p.type], .pointer (some ⟨B, 0, none⟩)] w (Ret w (.bool (partBad n p))) := by
 have hlt := cell_lt hc
 have hh := fun w => has_any w A n cap p.type hn
 unfold partBad
 generalize hasB n p.type = r at hh ⊢
 have Hh := Lib.hid hh
 clear hh
 go_enter Tryz.func219, Tryz.ntmps219
 go_wp2_with fail
 refine (Hh.out _).mono ?_
 rintro e w1 ⟨rfl, hx1⟩
 go_wp2_with fail
 go_ret
 exact ⟨rfl, ((Ext.refl _).alloc _).trans hx1⟩
theorem pred219 (w : World) (B : Nat) (A : Option Addr) (n cap : Nat) (xs : List Part) (hn : n ≤ 1048576) (hc : w.cell? ⟨B, 0, none⟩ = some (.slice A n cap)) :
  Pred partE w 219 #[.pointer (some ⟨B, 0, none⟩)] xs (partBad n) :=
 ⟨enters_of Tryz.func219 (by kernel_rfl) rfl, by
  rintro x _ w' A' hx ⟨cs, rfl, rfl⟩
  exact branded1 w' B A n cap x hn (hx.cell hc)⟩
def brandedB (n : Nat) (t : Ty) : Bool := isBrandB t.brand && ((t.branded || strEq t.brand ByteArray.empty) && !t.parts.any (partBad n))
def noBrand (t : Ty) : Ty := { t with branded := false, brand := ByteArray.empty }
set_option maxRecDepth 100000 in
set_option maxHeartbeats 4000000 in
theorem branded_any (w : World) (A : Option Addr) (n cap b : Nat) (t : Ty) (vp vm vo : Value) (hn : n ≤ 1048576) (hbrand : t.brand.size ≤ 1048576) (hp : Sl partE w vp t.parts) (hpn : t.parts.length ≤ 1048576) (hb : TyBox w b t vp vm vo) :
  Calls Tryz.prog 190 #[.agg #[.slice A n cap], .pointer (some ⟨b, 0, none⟩)] w fun e w' => e = .returned (.bool (brandedB n t)) ∧ TyBox w' b (noBrand t) vp vm vo ∧ w.grownBy w' (some b) := by
 have Hb := Lib.hid hb
 have hlt := hb.lt
 have h3 := hb.at.c3
 have h4 := hb.at.c4
 have h7 := hb.at.c7
 have hib := fun w => isBrand_any t.brand w hbrand
 obtain ⟨A1, cap1, rfl⟩ := hp.len
 have Hp := Lib.hid hp
 simp only [Nat.zero_add] at h3 h4 h7
 unfold brandedB
 have hfin : ∀ w1 : World, Ext w w1 → TyBox ((w1.setCell ⟨b, 3, none⟩ (.bool false)).setCell ⟨b, 4, none⟩ (.string ByteArray.empty)) b (noBrand t) (.slice A1 t.parts.length cap1) vm vo ∧ w.grownBy ((w1.setCell ⟨b, 3, none⟩ (.bool false)).setCell ⟨b, 4, none⟩ (.string ByteArray.empty)) (some b) := by
  intro w1 hx
  have hb1 := Hb.out.ext hx
  refine ⟨heap_set (heap_set hb1 3 _) 4 _, ⟨hx.os, hx.tape, hx.output, by simp; exact hx.size, fun k hk hne => ?_⟩⟩
  have : k ≠ b := fun e => hne (by rw [e])
  rw [Below.heap_setCell _ _ _ _ this, Below.heap_setCell _ _ _ _ this]
  exact Below.block hx k hk
 have Hfin := Lib.hid hfin
 clear hb hp hfin
 cases h1 : isBrandB t.brand
 ·rw [h1] at hib
  have Hib := Lib.hid hib
  clear hib h1 h7
  go_enter Tryz.func190, Tryz.ntmps190
  go_wp2_with fail
  refine (Hib.out _).mono ?_
  rintro e w1 ⟨rfl, hx1⟩
  have hx2 := ((Ext.refl w).alloc _).trans hx1
  have h3' := hx2.cell h3
  have h4' := hx2.cell h4
  have f3 := heap_frozen (Hb.out.ext hx2) 3
  have f4 := heap_frozen (Hb.out.ext hx2) 4
  have Hx2 := Lib.hid hx2
  clear h3 h4 hx1 hx2
  go_wp2_with fail
  go_ret
  exact ⟨rfl, Hfin.out _ Hx2.out⟩
 ·rw [h1] at hib
  have Hib := Lib.hid hib
  clear hib h1
  have hcon := fun (w' : World) (hx : Ext w w') (hc : w'.cell? ⟨w.heap.size, 0, none⟩ = some (.slice A n cap)) =>
   containsFunc_part 219 #[.pointer (some ⟨w.heap.size, 0, none⟩)] w' _ _ _ (Hp.out.mono hx) hpn (pred219 w' _ A n cap t.parts hn hc)
  generalize t.parts.any (partBad n) = r at hcon ⊢
  have Hcon := Lib.hid hcon
  clear hcon
  cases hbr : t.branded
  ·rw [hbr] at h3
   have hem := strEq_empty t.brand
   rw [hem]
   cases he : t.brand.toList.isEmpty
   ·have Hbr := Lib.hid hbr
    clear hem hbr h7
    go_enter Tryz.func190, Tryz.ntmps190
    go_wp2_with fail
    refine (Hib.out _).mono ?_
    rintro e w1 ⟨rfl, hx1⟩
    have hx2 := ((Ext.refl w).alloc _).trans hx1
    have h3' := hx2.cell h3
    have h4' := hx2.cell h4
    have f3 := heap_frozen (Hb.out.ext hx2) 3
    have f4 := heap_frozen (Hb.out.ext hx2) 4
    have Hx2 := Lib.hid hx2
    clear h3 h4 hx1 hx2
    go_wp2_with fail
    go_ret
    exact ⟨rfl, Hfin.out _ Hx2.out⟩
   ·have Hbr := Lib.hid hbr
    clear hem hbr
    go_enter Tryz.func190, Tryz.ntmps190
    go_wp2_with fail
    refine (Hib.out _).mono ?_
    rintro e w1 ⟨rfl, hx1⟩
    have hx2 := ((Ext.refl w).alloc _).trans hx1
    have h3' := hx2.cell h3
    have h4' := hx2.cell h4
    have h7' := hx2.cell h7
    have hg' := hx1.cell (World.cell?_alloc_new (w := w) #[.slice A n cap] 77 0)
    have Hx2 := Lib.hid hx2
    clear h3 h4 h7 hx1 hx2
    go_wp2_with fail
    refine (Hcon.out _ Hx2.out hg').mono ?_
    rintro e w2 ⟨rfl, hx3⟩
    have hx4 := Hx2.out.trans hx3
    have h3'' := hx3.cell h3'
    have h4'' := hx3.cell h4'
    have f3 := heap_frozen (Hb.out.ext hx4) 3
    have f4 := heap_frozen (Hb.out.ext hx4) 4
    have Hx4 := Lib.hid hx4
    clear h3' h4' h7' hg' hx3 hx4 Hx2
    go_wp2_with fail
    go_ret
    exact ⟨rfl, Hfin.out _ Hx4.out⟩
  ·rw [hbr] at h3
   have Hbr := Lib.hid hbr
   clear hbr
   go_enter Tryz.func190, Tryz.ntmps190
   go_wp2_with fail
   refine (Hib.out _).mono ?_
   rintro e w1 ⟨rfl, hx1⟩
   have hx2 := ((Ext.refl w).alloc _).trans hx1
   have h3' := hx2.cell h3
   have h4' := hx2.cell h4
   have h7' := hx2.cell h7
   have hg' := hx1.cell (World.cell?_alloc_new (w := w) #[.slice A n cap] 77 0)
   have Hx2 := Lib.hid hx2
   clear h3 h4 h7 hx1 hx2
   go_wp2_with fail
   refine (Hcon.out _ Hx2.out hg').mono ?_
   rintro e w2 ⟨rfl, hx3⟩
   have hx4 := Hx2.out.trans hx3
   have h3'' := hx3.cell h3'
   have h4'' := hx3.cell h4'
   have f3 := heap_frozen (Hb.out.ext hx4) 3
   have f4 := heap_frozen (Hb.out.ext hx4) 4
   have Hx4 := Lib.hid hx4
   clear h3' h4' h7' hg' hx3 hx4 Hx2
   go_wp2_with fail
   go_ret
   exact ⟨rfl, Hfin.out _ Hx4.out⟩
end Go.Proofs.YtldnjnnhfeobdaaGreatDoor
/- Contracts: the rules on references, arrays, records, ranges and opaque types. Conditions: lengths below 2^20. -/
namespace Go.Proofs.YtldnjnnhfeobdaaGreatDoor
open Go.RowKit Go.Shelf
/-- nothing of a type is long -/
structure TySmall (t : Ty) : Prop where
 brand : t.brand.size ≤ 1048576
 opaq : t.opaq.size ≤ 1048576
 parts : t.parts.length ≤ 1048576
 part : ∀ p ∈ t.parts, p.name.size ≤ 1048576
 methods : t.methods.length ≤ 1048576
 method : ∀ m ∈ t.methods, m.name.size ≤ 1048576 ∧ m.proc.size ≤ 1048576 ∧ m.args.length ≤ 1048576 ∧ m.raises.length ≤ 1048576 ∧ ∀ r ∈ m.raises, r.size ≤ 1048576
 overs : t.overs.length ≤ 1048576
 over : ∀ o ∈ t.overs, o.name.size ≤ 1048576 ∧ o.proc.size ≤ 1048576
/-- v is a slice of n elements -/
def Len (v : Value) (n : Nat) : Prop := ∃ A cap, v = .slice A n cap
theorem Len.nil : Len (.slice none 0 0) 0 := ⟨_, _, rfl⟩
theorem Sl.toLen {α : Type} {E : Elt α} {w : World} {v : Value} {xs : List α} (h : Sl E w v xs) : Len v xs.length := h.len
/-- what a rule leaves: its answer, and the type without what it has looked at -/
def RulePost (w0 : World) (b : Nat) (r : Bool) (t : Ty) (e : Ending) (w' : World) : Prop :=
 e = .returned (.bool r) ∧ Ext w0 w' ∧ ∃ vp vm vo, TyBox w' b t vp vm vo ∧ Len vp t.parts.length ∧ Len vm t.methods.length ∧ Len vo t.overs.length
def Rule (f : Nat) (ok : Graph → Ty → Bool) (aft : Ty → Ty) : Prop :=
 ∀ (w0 w : World) (gv : Value) (g : Graph) (b : Nat) (t : Ty) (vp vm vo : Value), Ext w0 w → w0.heap.size ≤ b → Glob w0 → Sl tyE w0 gv g → g.length ≤ 1048576 → TyOf w0 t vp vm vo → TySmall t → TyBox w b t vp vm vo →
  Calls Tryz.prog f #[.agg #[gv], .pointer (some ⟨b, 0, none⟩)] w (RulePost w0 b (ok g t) (aft t))
theorem branded_rule {w0 w : World} {A : Option Addr} {n cap b : Nat} {t : Ty} {vp vm vo : Value} (hx : Ext w0 w) (hB : w0.heap.size ≤ b) (hn : n ≤ 1048576) (hp : TyOf w0 t vp vm vo) (hs : TySmall t) (hb : TyBox w b t vp vm vo) :
  Calls Tryz.prog 190 #[.agg #[.slice A n cap], .pointer (some ⟨b, 0, none⟩)] w fun e w' => e = .returned (.bool (brandedB n t)) ∧ Ext w0 w' ∧ TyBox w' b (noBrand t) vp vm vo :=
 (branded_any w A n cap b t vp vm vo hn hs.brand (hp.parts.mono hx) hs.parts hb).mono fun e w' ⟨h1, h2, h3⟩ =>
  ⟨h1, Below.grown hx h3 hx.size (fun k hk => by cases hk; exact hB), h2⟩
theorem TyBox.set {w0 w : World} {b : Nat} {c : Array Value} (hx : Ext w0 w) (hB : w0.heap.size ≤ b) (h : w.heap[b]? = some (.cells c 42 (0, 0))) (i : Nat) (v : Value) :
  Ext w0 (w.setCell ⟨b, i, none⟩ v) ∧ (w.setCell ⟨b, i, none⟩ v).heap[b]? = some (.cells (c.setIfInBounds i v) 42 (0, 0)) :=
 ⟨hx.setCell hB v, heap_set h i v⟩
/-! ### nothing -/
set_option maxRecDepth 100000 in
theorem nothing_rule : Rule 155 (fun _ _ => true) id := by
 intro w0 w gv g b t vp vm vo hx hB hG hg hgn hof hs hb
 obtain ⟨A, cap, rfl⟩ := hg.len
 have hp := hof.parts.toLen
 have hm := hof.methods.toLen
 have ho := hof.overs.toLen
 have Hx := Lib.hid hx
 have Hb := Lib.hid hb
 clear hx hb hG hg hof hs
 go_enter Tryz.func155, Tryz.ntmps155
 go_wp2_with fail
 go_ret
 exact ⟨rfl, Hx.out.alloc _, _, _, _, Hb.out.ext ((Ext.refl _).alloc _), hp, hm, ho⟩
/-! ### references and arrays -/
def heldB (g : Graph) (t : Ty) : Bool := brandedB g.length t && (decide (t.parts.length = 1) && strEq ((t.parts.head?.map (·.name)).getD ByteArray.empty) ByteArray.empty)
def noParts (t : Ty) : Ty := { noBrand t with parts := [] }
set_option maxRecDepth 100000 in
set_option maxHeartbeats 4000000 in
theorem held_rule : Rule 157 heldB noParts := by
 intro w0 w gv g b t vp vm vo hx hB hG hg hgn hof hs hb
 obtain ⟨A, cap, rfl⟩ := hg.len
 obtain ⟨A1, cap1, rfl, hcell⟩ := hof.parts.part
 have hm := hof.methods.toLen
 have ho := hof.overs.toLen
 have hlt := hb.lt
 have hbr := branded_rule (A := A) (cap := cap) (hx.alloc (.cells #[.slice A g.length cap] 77)) hB hgn hof hs (hb.ext ((Ext.refl _).alloc _))
 unfold heldB
 have hfin : ∀ w1 : World, Ext w0 w1 → TyBox w1 b (noBrand t) (.slice A1 t.parts.length cap1) vm vo → ∀ r, RulePost w0 b r (noParts t) (.returned (.bool r)) (w1.setCell ⟨b, 7, none⟩ (.slice none 0 0)) := fun w1 h1 h2 r =>
  ⟨rfl, (TyBox.set h1 hB h2 7 _).1, _, _, _, (TyBox.set h1 hB h2 7 _).2, Len.nil, hm, ho⟩
 have Hbr := Lib.hid hbr
 have Hfin := Lib.hid hfin
 have Hcell := Lib.hid hcell
 clear hx hb hG hg hof hs hbr hfin hcell
 cases h1 : brandedB g.length t
 ·rw [h1] at Hbr
  clear h1
  go_enter Tryz.func157, Tryz.ntmps157
  go_wp2_with fail
  refine Hbr.out.mono ?_
  rintro e w1 ⟨rfl, hx1, hb1⟩
  have f7 := heap_frozen hb1 7
  have c7 := hb1.at.c7
  simp only [Nat.zero_add] at c7
  have Hx1 := Lib.hid hx1
  have Hb1 := Lib.hid hb1
  clear hx1 hb1
  go_wp2_with fail
  go_ret
  exact Hfin.out _ Hx1.out Hb1.out _
 ·rw [h1] at Hbr
  clear h1
  by_cases hlen : t.parts.length = 1
  ·have hl1 : ((t.parts.length : Int) == 1) = true := by simp [hlen]
   have hpos : 0 < t.parts.length := by omega
   obtain ⟨b1, off1, rfl, n0, n1⟩ := Hcell.out 0 hpos
   have hhead : (t.parts.head?.map (·.name)).getD ByteArray.empty = (t.parts[0]'hpos).name := by
    rw [List.head?_eq_getElem?, List.getElem?_eq_getElem hpos]; rfl
   rw [hhead, strEq_empty]
   have n0 : w0.cell? ⟨b1, off1, none⟩ = some (.string (t.parts[0]'hpos).name) := by simpa using n0
   have hpos' : (0 : Int) < (t.parts.length : Int) := by omega
   have N0 := Lib.hid n0
   have Hlen := Lib.hid hlen
   clear n0 n1 hlen hhead
   have hl2 : decide (t.parts.length = 1) = true := by rw [Hlen.out]; rfl
   rw [hl2]
   clear hl2
   cases hem : (t.parts[0]'hpos).name.toList.isEmpty
   all_goals
    go_enter Tryz.func157, Tryz.ntmps157
    go_wp2_with fail
    refine Hbr.out.mono ?_
    rintro e w1 ⟨rfl, hx1, hb1⟩
    have f7 := heap_frozen hb1 7
    have c7 := hb1.at.c7
    simp only [Nat.zero_add] at c7
    have n0 := hx1.cell N0.out
    have Hx1 := Lib.hid hx1
    have Hb1 := Lib.hid hb1
    clear hx1 hb1
    go_wp2_with fail
    go_ret
    exact Hfin.out _ Hx1.out Hb1.out _
  ·have hl1 : ((t.parts.length : Int) == 1) = false := by simp; omega
   rw [decide_eq_false hlen]
   clear hlen
   go_enter Tryz.func157, Tryz.ntmps157
   go_wp2_with fail
   refine Hbr.out.mono ?_
   rintro e w1 ⟨rfl, hx1, hb1⟩
   have f7 := heap_frozen hb1 7
   have c7 := hb1.at.c7
   simp only [Nat.zero_add] at c7
   have Hx1 := Lib.hid hx1
   have Hb1 := Lib.hid hb1
   clear hx1 hb1
   go_wp2_with fail
   go_ret
   exact Hfin.out _ Hx1.out Hb1.out _
end Go.Proofs.YtldnjnnhfeobdaaGreatDoor
/- Contracts: the rules on records, ranges and opaque types. Conditions: lengths below 2^20. -/
namespace Go.Proofs.YtldnjnnhfeobdaaGreatDoor
open Go.RowKit Go.Shelf
def recordedB (g : Graph) (t : Ty) : Bool := brandedB g.length t && (decide (0 < t.parts.length) && differentB (t.parts.map (·.name)) 8)
theorem small_names {t : Ty} (hs : TySmall t) : ∀ s ∈ t.parts.map (·.name), s.size ≤ 1048576 := by
 intro s h
 obtain ⟨p, hp, rfl⟩ := List.mem_map.1 h
 exact hs.part p hp
set_option maxRecDepth 100000 in
set_option maxHeartbeats 4000000 in
theorem recorded_rule : Rule 158 recordedB noParts := by
 intro w0 w gv g b t vp vm vo hx hB hG hg hgn hof hs hb
 obtain ⟨A, cap, rfl⟩ := hg.len
 obtain ⟨A1, cap1, rfl⟩ := hof.parts.len
 have hm := hof.methods.toLen
 have ho := hof.overs.toLen
 have hlt := hb.lt
 have hbr := branded_rule (A := A) (cap := cap) (hx.alloc (.cells #[.slice A g.length cap] 77)) hB hgn hof hs (hb.ext ((Ext.refl _).alloc _))
 unfold recordedB
 have hfin : ∀ w1 : World, Ext w0 w1 → TyBox w1 b (noBrand t) (.slice A1 t.parts.length cap1) vm vo → ∀ r, RulePost w0 b r (noParts t) (.returned (.bool r)) (w1.setCell ⟨b, 7, none⟩ (.slice none 0 0)) := fun w1 h1 h2 r =>
  ⟨rfl, (TyBox.set h1 hB h2 7 _).1, _, _, _, (TyBox.set h1 hB h2 7 _).2, Len.nil, hm, ho⟩
 have htur := fun (w1 : World) (h1 : Ext w0 w1) => turned_part_str 193 #[] w1 _ t.parts Part.name (hof.parts.mono h1) hs.parts (map193 w1 t.parts)
 have hdif := fun (w1 : World) (v : Value) (h1 : Sl strE w1 v (t.parts.map Part.name)) => different_any w1 v (t.parts.map Part.name) 8 h1 (by simpa using hs.parts) (small_names hs)
 have Hbr := Lib.hid hbr
 have Hfin := Lib.hid hfin
 have Htur := Lib.hid htur
 have Hdif := Lib.hid hdif
 have hpn := hs.parts
 clear hx hb hG hg hof hs hbr hfin htur hdif
 change Calls _ _ _ _ (RulePost w0 b (_ && (_ && differentB (t.parts.map Part.name) 8)) _)
 generalize differentB (t.parts.map Part.name) 8 = r at Hdif ⊢
 cases h1 : brandedB g.length t
 ·rw [h1] at Hbr
  clear h1
  go_enter Tryz.func158, Tryz.ntmps158
  go_wp2_with fail
  refine Hbr.out.mono ?_
  rintro e w1 ⟨rfl, hx1, hb1⟩
  have f7 := heap_frozen hb1 7
  have c7 := hb1.at.c7
  simp only [Nat.zero_add] at c7
  have Hx1 := Lib.hid hx1
  have Hb1 := Lib.hid hb1
  clear hx1 hb1
  go_wp2_with fail
  go_ret
  exact Hfin.out _ Hx1.out Hb1.out _
 ·rw [h1] at Hbr
  clear h1
  by_cases hlen : 0 < t.parts.length
  ·rw [decide_eq_true hlen]
   go_enter Tryz.func158, Tryz.ntmps158
   go_wp2_with fail
   refine Hbr.out.mono ?_
   rintro e w1 ⟨rfl, hx1, hb1⟩
   have c7 := hb1.at.c7
   simp only [Nat.zero_add] at c7
   have Hx1 := Lib.hid hx1
   have Hb1 := Lib.hid hb1
   clear hx1 hb1
   go_wp2_with fail
   refine (Htur.out _ Hx1.out).mono ?_
   rintro e w2 ⟨v2, rfl, hs2, hx2⟩
   have hsl := hs2.any
   obtain ⟨A2, cap2, e2⟩ := hsl.len
   rw [List.length_map] at e2
   subst e2
   have Hx2 := Lib.hid (Hx1.out.trans hx2)
   have Hb2 := Lib.hid (Hb1.out.ext hx2)
   have Hsl := Lib.hid hsl
   clear hs2 hsl hx2 c7 Hx1 Hb1
   go_wp2_with fail
   refine (Hdif.out _ _ Hsl.out).mono ?_
   rintro e w3 ⟨rfl, hx3⟩
   have Hx3 := Lib.hid (Hx2.out.trans hx3)
   have Hb3 := Lib.hid (Hb2.out.ext hx3)
   have f7 := heap_frozen Hb3.out 7
   have c7 := Hb3.out.at.c7
   simp only [Nat.zero_add] at c7
   clear hx3 Hx2 Hb2 Hsl
   go_wp2_with fail
   go_ret
   exact Hfin.out _ Hx3.out Hb3.out _
  ·rw [decide_eq_false hlen]
   go_enter Tryz.func158, Tryz.ntmps158
   go_wp2_with fail
   refine Hbr.out.mono ?_
   rintro e w1 ⟨rfl, hx1, hb1⟩
   have f7 := heap_frozen hb1 7
   have c7 := hb1.at.c7
   simp only [Nat.zero_add] at c7
   have Hx1 := Lib.hid hx1
   have Hb1 := Lib.hid hb1
   clear hx1 hb1
   go_wp2_with fail
   go_ret
   exact Hfin.out _ Hx1.out Hb1.out _
/-! ### ranges -/
def rangedB (_ : Graph) (t : Ty) : Bool := inB t.low (-1000000000) t.high && decide (t.high ≤ 1000000000)
def noRange (t : Ty) : Ty := { t with low := 0, high := 0 }
set_option maxRecDepth 100000 in
set_option maxHeartbeats 4000000 in
theorem ranged_rule : Rule 156 rangedB noRange := by
 intro w0 w gv g b t vp vm vo hx hB hG hg hgn hof hs hb
 obtain ⟨A, cap, rfl⟩ := hg.len
 have hp := hof.parts.toLen
 have hm := hof.methods.toLen
 have ho := hof.overs.toLen
 have hlt := hb.lt
 unfold rangedB
 have hfin : ∀ w1 : World, Ext w0 w1 → TyBox w1 b t vp vm vo → ∀ r, RulePost w0 b r (noRange t) (.returned (.bool r)) ((w1.setCell ⟨b, 1, none⟩ (.int .i64 0)).setCell ⟨b, 2, none⟩ (.int .i64 0)) := fun w1 h1 h2 r =>
  ⟨rfl, (TyBox.set (TyBox.set h1 hB h2 1 _).1 hB (TyBox.set h1 hB h2 1 _).2 2 _).1, _, _, _, (TyBox.set (TyBox.set h1 hB h2 1 _).1 hB (TyBox.set h1 hB h2 1 _).2 2 _).2, hp, hm, ho⟩
 have Hfin := Lib.hid hfin
 have Hx := Lib.hid hx
 have Hb := Lib.hid hb
 have c1 := hb.at.c1
 have c2 := hb.at.c2
 have f1 := heap_frozen hb 1
 have f2 := heap_frozen hb 2
 simp only [Nat.zero_add] at c1 c2
 clear hx hb hG hg hof hs hfin
 cases h1 : inB t.low (-1000000000) t.high
 ·have H1 := Lib.hid h1
  clear h1
  go_enter Tryz.func156, Tryz.ntmps156
  go_wp2_with fail
  go_quiet ((go_at_call 59; exact Calls.quiet_of_same ((in_any t.low (-1000000000) t.high _).mono fun e w' ⟨h, h'⟩ => ⟨by rw [h, H1.out], h'.symm⟩)))
  go_wp2_with fail
  go_ret
  exact Hfin.out _ ((Hx.out.alloc _).drewN _) (Hb.out.ext (((Ext.refl _).alloc _).drewN _)) _
 ·have H1 := Lib.hid h1
  clear h1
  by_cases h2 : t.high ≤ 1000000000
  ·rw [decide_eq_true h2]
   have h2' : decide (t.high ≤ 1000000000) = true := decide_eq_true h2
   go_enter Tryz.func156, Tryz.ntmps156
   go_wp2_with fail
   go_quiet ((go_at_call 59; exact Calls.quiet_of_same ((in_any t.low (-1000000000) t.high _).mono fun e w' ⟨h, h'⟩ => ⟨by rw [h, H1.out], h'.symm⟩)))
   go_wp2_with fail
   go_ret
   exact Hfin.out _ ((Hx.out.alloc _).drewN _) (Hb.out.ext (((Ext.refl _).alloc _).drewN _)) _
  ·rw [decide_eq_false h2]
   have h2' : decide (t.high ≤ 1000000000) = false := decide_eq_false h2
   go_enter Tryz.func156, Tryz.ntmps156
   go_wp2_with fail
   go_quiet ((go_at_call 59; exact Calls.quiet_of_same ((in_any t.low (-1000000000) t.high _).mono fun e w' ⟨h, h'⟩ => ⟨by rw [h, H1.out], h'.symm⟩)))
   go_wp2_with fail
   go_ret
   exact Hfin.out _ ((Hx.out.alloc _).drewN _) (Hb.out.ext (((Ext.refl _).alloc _).drewN _)) _
end Go.Proofs.YtldnjnnhfeobdaaGreatDoor
/- Regions that draw their order, whose operations read what lay before and call what leaves it: one walk in the order of the text. No condition. -/
namespace Go.Proofs.YtldnjnnhfeobdaaGreatDoor
open Go.RowKit Go.Shelf
section
variable {P : Program} {ops : Array Oper} {C : World → Prop} {Q : Act → Prop} {a : Act} {o : Oper} {rest : List Oper}
theorem wp_region_X {id : Nat} {Q : Exit → Act → World → Prop} {a : Act} {w : World} {l : List Oper} (hm : P.follows .mixedOrders = true) (hB : Region.lexB .any l.toArray = true) (C : World → Prop) (hC : C w.drew)
  (h : wpQuiet P l.toArray C (fun a' => ∀ w', C w' → Q .normal a' w') l a) : (Code.region id l.toArray true).wp P Q a w :=
 wp_region_quiet (C := C) hm hB hC (by simpa using h)
theorem X_want (hw : Region.wanted o (yielded ops a.tmps) = true) (h : o.quiet P a C (wpQuiet P ops C Q rest)) : wpQuiet P ops C Q (o :: rest) a :=
 wpQuiet_step fun K hK => by rw [if_pos hw]; exact Oper.quiet_mono hK h
theorem X_skip (hw : Region.wanted o (yielded ops a.tmps) = false) (h : wpQuiet P ops C Q rest (a.put o.dst undef)) : wpQuiet P ops C Q (o :: rest) a :=
 wpQuiet_step fun K hK => by rw [if_neg (by rw [hw]; exact Bool.false_ne_true)]; exact hK _ h
theorem X_val {K : Act → Prop} {v : Value} (h : ∀ w, C w → (execOp a.eval o).run P w = .ok (.value v) w) (hk : K (a.put o.dst v)) : o.quiet P a C K :=
 ⟨v, fun w hw => by unfold Oper.quietAt; rw [h w hw]; exact ⟨rfl, rfl⟩, hk⟩
theorem X_call {K : Act → Prop} {v : Value} {f : FuncId} {args : Array Value} (h : ∀ w, (execOp a.eval o).run P w = .ok (.enter f args) w) (hc : ∀ w, C w → Calls P f args w (fun e w' => e = .returned v ∧ C w')) (hk : K (a.put o.dst v)) : o.quiet P a C K :=
 ⟨v, fun w hw => by unfold Oper.quietAt; rw [h w]; exact ⟨rfl, hc w hw⟩, hk⟩
end
section
variable {P : Program} {Q : Exit → Act → World → Prop} {a : Act} {w : World} {id : Nat} {ops : Array Oper}
theorem wp_region_anyX (hm : P.follows .mixedOrders = true) (h : wpAny P .any ops Q ops.size (Array.replicate ops.size false) a w.drew) : (Code.region id ops true).wp P Q a w := wp_region_any hm h
theorem any_val {i : Nat} {oi : Oper} {v : Value} (d : Option Nat) (l2 : Array Bool) {fuel : Nat} {listed : Array Bool} (hi : ops[i]? = some oi) (hd : oi.dst = d) (hl : listed.setIfInBounds i true = l2)
  (hs : Region.noSelect ops = true) (hf : Region.free .any ops listed i = true) (hr : (Region.ready .any ops listed).contains i = true)
  (hQ : ∀ c a w, Q (.panic c) (a.put oi.dst v) w → Q (.panic c) a w) (hy : Yields P ops oi v a)
  (h : wpAny P .any ops Q fuel l2 (a.put d v) w) : wpAny P .any ops Q (fuel + 1) listed a w :=
 wpAny_take hi hs hf hr hQ hy (by rw [hd, hl]; exact h)
end
end Go.Proofs.YtldnjnnhfeobdaaGreatDoor
/- Contracts: the rule on opaque types. Conditions: lengths below 2^20. -/
namespace Go.Proofs.YtldnjnnhfeobdaaGreatDoor
open Go.RowKit Go.Shelf
def kindsOpaque : List Int := [12, 6, 7, 8, 13, 4]
def kindsObject : List Int := [12, 6, 7, 8, 13]
theorem lit_bytes (W : World) (l : List Int) (n : Nat) (hn : l.length = n) : Sl byteE (W.alloc (.cells (l.map fun x => Value.int .u8 x).toArray 5)) (.slice (some ⟨W.heap.size, 0, none⟩) n n) l := by
 subst hn
 refine ⟨_, _, rfl, fun i x hi => ⟨_, _, _, rfl, ⟨trivial, Nat.le_refl _⟩, rfl, fun j u hj => ?_⟩⟩
 have hlt := (List.getElem?_eq_some_iff.1 hi).1
 cases j with
 | zero =>
  simp at hj
  subst hj
  simp only [byteE, Nat.mul_one, Nat.add_zero, Nat.zero_add]
  rw [World.cell?_alloc_new]
  simp [hi]
 | succ j => simp at hj
def opaqueB (g : Graph) (t : Ty) : Bool := isSymbolB t.opaq && overB g t.super kindsOpaque
def noOpaque (t : Ty) : Ty := { t with opaq := ByteArray.empty, super := 0 }
set_option maxRecDepth 100000 in
set_option maxHeartbeats 4000000 in
theorem opaque_rule : Rule 160 opaqueB noOpaque := by
  intro w0 w gv g b t vp vm vo hx hB hG hg hgn hof hs hb
  obtain ⟨A, cap, rfl⟩ := hg.len
  have hp := hof.parts.toLen
  have hm := hof.methods.toLen
  have ho := hof.overs.toLen
  have hlt := hb.lt
  unfold opaqueB
  have hfin : ∀ w1 : World, Ext w0 w1 → TyBox w1 b t vp vm vo → ∀ r, RulePost w0 b r (noOpaque t) (.returned (.bool r)) ((w1.setCell ⟨b, 5, none⟩ (.string ByteArray.empty)).setCell ⟨b, 6, none⟩ (.int .i64 0)) := fun w1 h1 h2 r =>
    ⟨rfl, (TyBox.set (TyBox.set h1 hB h2 5 _).1 hB (TyBox.set h1 hB h2 5 _).2 6 _).1, _, _, _, (TyBox.set (TyBox.set h1 hB h2 5 _).1 hB (TyBox.set h1 hB h2 5 _).2 6 _).2, hp, hm, ho⟩
  have hsy := fun (w1 : World) (h1 : Ext w0 w1) => isSymbol_any t.opaq w1 hs.opaq (hG.mono h1)
  have hov := fun (w1 : World) (v : Value) (h1 : Ext w0 w1) (h2 : Sl byteE w1 v kindsOpaque) => over_any w1 _ v g t.super kindsOpaque (hg.mono h1) h2 hgn (by decide)
  generalize overB g t.super kindsOpaque = r at hov ⊢
  have Hfin := Lib.hid hfin
  have Hsy := Lib.hid hsy
  have Hov := Lib.hid hov
  have Hx := Lib.hid hx
  have Hb := Lib.hid hb
  have c5 := hb.at.c5
  have c6 := hb.at.c6
  have f5 := heap_frozen hb 5
  have f6 := heap_frozen hb 6
  simp only [Nat.zero_add] at c5 c6
  clear hx hb hG hg hof hs hfin hsy hov
  cases h1 : isSymbolB t.opaq
  · rw [h1] at Hsy
    clear h1 Hov
    go_enter Tryz.func160, Tryz.ntmps160
    go_wp2_with fail
    refine wp_region_X (by kernel_rfl) (by kernel_rfl) (fun w' => Ext w w') (((Ext.refl _).alloc _).drew) ?_
    repeat (first
      | (refine X_skip rfl ?_; simp only [Act.put, List.setIfInBounds_toArray, List.set_cons_zero, List.set_cons_succ])
      | (refine X_want rfl ?_
         first
           | (refine X_val (v := ?_) (fun w1 hC => ?_) ?_
              rotate_left
              · have c5' := hC.cell c5
                go_simp
                exact rfl
              simp only [Act.put, List.setIfInBounds_toArray, List.set_cons_zero, List.set_cons_succ])
           | (refine X_call (v := .bool false) (f := 29) (args := #[.string t.opaq]) (fun w1 => ?_) (fun w1 hC => (Hsy.out _ (Hx.out.trans hC)).mono fun e w2 ⟨he, hx⟩ => ⟨he, hC.trans hx⟩) ?_
              · go_simp
              simp only [Act.put, List.setIfInBounds_toArray, List.set_cons_zero, List.set_cons_succ])))
    refine wpQuiet_nil ?_
    intro w1 hx1
    have c5' := hx1.cell c5
    have c6' := hx1.cell c6
    have f5' := heap_frozen (Hb.out.ext hx1) 5
    have f6' := heap_frozen (Hb.out.ext hx1) 6
    clear c5 c6 f5 f6
    go_wp2_with fail
    go_ret
    exact Hfin.out _ (Hx.out.trans hx1) (Hb.out.ext hx1) _
  · rw [h1] at Hsy
    clear h1
    go_enter Tryz.func160, Tryz.ntmps160
    go_wp2_with fail
    go_region_with (first | (go_at_call 29; refine (Hsy.out _ ((Hx.out.alloc _).drew)).mono ?_; rintro e w1 ⟨rfl, hx1⟩; have hx2 := ((Ext.refl w).alloc (.cells #[.slice A g.length cap] 77)).drew.trans hx1; have c5' := hx2.cell c5; have c6' := hx2.cell c6; have hg' := hx1.cell (v := .slice A g.length cap) (p := ⟨w.heap.size, 0, none⟩) (by simp); have hb1 := cell_lt c6'; have hb2 := cell_lt hg') | (go_at_call 196; refine (Hov.out _ _ ((Hx.out.trans hx2).alloc _) (lit_bytes w1 kindsOpaque 6 rfl)).mono ?_; rintro e w3 ⟨rfl, hx3⟩))
    all_goals
      have hx4 := (hx2.alloc _).trans hx3
      have c5'' := hx4.cell c5
      have c6'' := hx4.cell c6
      have f5' := heap_frozen (Hb.out.ext hx4) 5
      have f6' := heap_frozen (Hb.out.ext hx4) 6
      clear c5 c6 f5 f6 c5' c6' hg' hx1 hx2 hx3
      go_wp2_with fail
      go_ret
      exact Hfin.out _ (Hx.out.trans hx4) (Hb.out.ext hx4) _
end Go.Proofs.YtldnjnnhfeobdaaGreatDoor
/- Contract: signatures. Conditions: lengths below 2^20. -/
namespace Go.Proofs.YtldnjnnhfeobdaaGreatDoor
open Go.RowKit Go.Shelf
def alerted : ByteArray := ⟨#[65, 76, 69, 82, 84, 69, 68]⟩
def lessB (a b : ByteArray) : Bool := Op.bytesLess a.toList b.toList
def raiseOk (prev : Option ByteArray) (r : ByteArray) : Bool := (strEq r alerted || isSymbolB r) && (match prev with | none => true | some p => lessB p r)
def raisesFrom (prev : Option ByteArray) : List ByteArray → Bool
 | [] => true
 | r :: l => raiseOk prev r && raisesFrom (some r) l
def prevAt (l : List ByteArray) (j : Nat) : Option ByteArray := if j = 0 then none else l[j - 1]?
theorem raises_step (l : List ByteArray) (j : Nat) (h : j < l.length) : raisesFrom (prevAt l j) (l.drop j) = (raiseOk (prevAt l j) l[j] && raisesFrom (prevAt l (j + 1)) (l.drop (j + 1))) := by
 rw [drop_cons' l j h]
 simp only [raisesFrom]
 rw [show prevAt l (j + 1) = some l[j] by simp [prevAt, List.getElem?_eq_getElem h]]
theorem alerted_toList : alerted.toList = [65, 76, 69, 82, 84, 69, 68] := by rw [ByteArray.toList_eq]; rfl
theorem prevAt_pos (l : List ByteArray) (j : Nat) (h : j + 1 < l.length) : prevAt l (j + 1) = some (l[j]'(by omega)) := by
 simp [prevAt, List.getElem?_eq_getElem (show j < l.length by omega)]
def sigB (n : Nat) (m : Method) : Bool :=
 (decide (m.args.length ≤ 6) && (decide (m.raises.length ≤ 6) && ((decide (m.result = -1) || hasB n m.result) && !(m.args.any fun i => !hasB n i)))) && raisesFrom none m.raises
set_option maxRecDepth 100000 in
theorem signed1 (w : World) (B : Nat) (A : Option Addr) (n cap : Nat) (i : Int) (hn : n ≤ 1048576) (hc : w.cell? ⟨B, 0, none⟩ = some (.slice A n cap)) :
  Calls Tryz.prog 243 #[.int .i64 i, .pointer (some ⟨B, 0, none⟩)] w (Ret w (.bool (!hasB n i))) := by
 have hlt := cell_lt hc
 have hh := fun w => has_any w A n cap i hn
 generalize hasB n i = r at hh ⊢
 have Hh := Lib.hid hh
 clear hh
 go_enter Tryz.func243, Tryz.ntmps243
 go_wp2_with fail
 refine (Hh.out _).mono ?_
 rintro e w1 ⟨rfl, hx1⟩
 go_wp2_with fail
 go_ret
 exact ⟨rfl, hx1⟩
theorem pred243 (w : World) (B : Nat) (A : Option Addr) (n cap : Nat) (xs : List Int) (hn : n ≤ 1048576) (hc : w.cell? ⟨B, 0, none⟩ = some (.slice A n cap)) :
  Pred intE w 243 #[.pointer (some ⟨B, 0, none⟩)] xs (fun i => !hasB n i) :=
 ⟨enters_of Tryz.func243 (by kernel_rfl) rfl, by
  rintro x _ w' A' hx ⟨cs, rfl, rfl⟩
  exact signed1 w' B A n cap x hn (hx.cell hc)⟩
set_option maxRecDepth 100000 in
set_option maxHeartbeats 8000000 in
/-- the loop over what is raised, from the frame that the first part leaves -/
theorem signed_any (w : World) (A : Option Addr) (n cap : Nat) (m : Method) (va vr : Value) (hn : n ≤ 1048576) (hG : Glob w) (ha : Sl intE w va m.args) (hr : Sl strE w vr m.raises)
  (hal : m.args.length ≤ 1048576) (hrl : m.raises.length ≤ 1048576) (hrs : ∀ r ∈ m.raises, r.size ≤ 1048576) :
  Calls Tryz.prog 226 #[.agg #[.slice A n cap], .agg #[va, .int .i64 m.result, vr]] w (Ret w (.bool (sigB n m))) := by
 obtain ⟨Aa, ca, rfl⟩ := ha.len
 obtain ⟨Ar, cr, rfl, hcell⟩ := hr.str
 unfold sigB
 have hh := fun w => has_any w A n cap m.result hn
 have hcon := fun (w' : World) (hx : Ext w w') (hc : w'.cell? ⟨w.heap.size, 0, none⟩ = some (.slice A n cap)) =>
  containsFunc_int 243 #[.pointer (some ⟨w.heap.size, 0, none⟩)] w' _ _ _ (ha.mono hx) hal (pred243 w' _ A n cap m.args hn hc)
 generalize (m.args.any fun i => !hasB n i) = r at hcon ⊢
 generalize hasB n m.result = hb at hh ⊢
 have hsy := fun (j : Nat) (hj : j < m.raises.length) (w' : World) (hx : Ext w w') => isSymbol_any m.raises[j] w' (hrs _ (List.getElem_mem hj)) (hG.mono hx)
 have Hcell := Lib.hid hcell
 have Hcon := Lib.hid hcon
 have Hh := Lib.hid hh
 have Hsy := Lib.hid hsy
 clear hcell hcon hh hsy ha hr hrs hG
 obtain ⟨ok, hok⟩ : ∃ ok, (decide (m.args.length ≤ 6) && (decide (m.raises.length ≤ 6) && ((decide (m.result = -1) || hb) && !r))) = ok := ⟨_, rfl⟩
 rw [hok]
 have Hok := Lib.hid hok
 clear hok
 go_enter Tryz.func226, Tryz.ntmps226
 go_upto_region 1 with fail
 go_cut [5] (fun s5 wx => s5 = .bool ok ∧ Ext w wx ∧ wx.cell? ⟨w.heap.size + 1, 2, none⟩ = some (.slice Ar m.raises.length cr))
 case first =>
  have h0 : Ext w ((w.alloc (.cells #[.slice A n cap] 77)).alloc (.cells #[.slice Aa m.args.length ca, .int .i64 m.result, .slice Ar m.raises.length cr] 72)) := ((Ext.refl _).alloc _).alloc _
  by_cases c1 : m.args.length ≤ 6
  ·by_cases c2 : m.raises.length ≤ 6
   ·by_cases c3 : m.result = -1
    ·have c3' : (m.result == -1) = true := by simp [c3]
     have C3 := Lib.hid c3
     clear c3
     have Hok2 : Hid ((!r) = ok) := by rw [← Hok.out, decide_eq_true c1, decide_eq_true c2, decide_eq_true C3.out]; rfl
     go_wp2_with fail
     refine (Hcon.out _ h0 (by simp)).mono ?_
     rintro e w1 ⟨rfl, hx1⟩
     have c5 := hx1.cell (v := .slice Ar m.raises.length cr) (p := ⟨w.heap.size + 1, 2, none⟩) (by simp)
     go_wp2_with fail
     go_meet
     exact ⟨by rw [← Hok2.out], h0.trans hx1, c5⟩
    ·have c3' : (m.result == -1) = false := by simp [c3]
     have C3 := Lib.hid c3
     clear c3
     have Hok2 : Hid ((hb && !r) = ok) := by rw [← Hok.out, decide_eq_true c1, decide_eq_true c2, decide_eq_false C3.out]; rfl
     cases hb
     ·go_wp2_with fail
      refine (Hh.out _).mono ?_
      rintro e w1 ⟨rfl, hx1⟩
      have c5 := hx1.cell (v := .slice Ar m.raises.length cr) (p := ⟨w.heap.size + 1, 2, none⟩) (by simp)
      go_wp2_with fail
      go_meet
      exact ⟨by rw [← Hok2.out]; rfl, h0.trans hx1, c5⟩
     ·go_wp2_with fail
      refine (Hh.out _).mono ?_
      rintro e w1 ⟨rfl, hx1⟩
      have c5 := hx1.cell (v := .slice Ar m.raises.length cr) (p := ⟨w.heap.size + 1, 2, none⟩) (by simp)
      have c6 := hx1.cell (v := .slice Aa m.args.length ca) (p := ⟨w.heap.size + 1, 0, none⟩) (by simp)
      have c7 := hx1.cell (v := .slice A n cap) (p := ⟨w.heap.size, 0, none⟩) (by simp)
      go_wp2_with fail
      refine (Hcon.out _ (h0.trans hx1) c7).mono ?_
      rintro e w2 ⟨rfl, hx2⟩
      have c5' := hx2.cell c5
      clear c5 c6 c7
      go_wp2_with fail
      go_meet
      exact ⟨by rw [← Hok2.out]; rfl, (h0.trans hx1).trans hx2, c5'⟩
   ·have Hok2 : Hid (false = ok) := by rw [← Hok.out, decide_eq_true c1, decide_eq_false c2]; rfl
    go_wp2_with fail
    go_meet
    exact ⟨by rw [← Hok2.out], h0, by simp⟩
  ·have Hok2 : Hid (false = ok) := by rw [← Hok.out, decide_eq_false c1]; rfl
   go_wp2_with fail
   go_meet
   exact ⟨by rw [← Hok2.out], h0, by simp⟩
 case rest =>
  obtain ⟨rfl, hx0, h2⟩ := hcut
  clear Hok Hcon Hh
  go_wp2_with fail
  go_loopw [5, 39] (fun o k wr => ∃ (j : Nat) (okj : Bool), j ≤ m.raises.length ∧ o = .bool okj ∧ k = .int .i64 j ∧ Ext w wr ∧ wr.cell? ⟨w.heap.size + 1, 2, none⟩ = some (.slice Ar m.raises.length cr) ∧
   Hid ((ok && raisesFrom none m.raises) = (okj && raisesFrom (prevAt m.raises j) (m.raises.drop j)))) (fun _ k _ => m.raises.length - (intOf k).toNat)
  case atStart => exact ⟨0, ok, by omega, rfl, by simp, hx0, h2, by simp [Hid, prevAt]⟩
  case round =>
   obtain ⟨j, okj, hj, rfl, rfl, hx, h3, hinv⟩ := hrel
   by_cases hlt : j < m.raises.length
   ·obtain ⟨b, off, rfl, h0⟩ := Hcell.out j hlt
    have h0 := hx.cell h0
    have Hinv : Hid ((ok && raisesFrom none m.raises) = (okj && (raiseOk (prevAt m.raises j) m.raises[j] && raisesFrom (prevAt m.raises (j + 1)) (m.raises.drop (j + 1))))) := by
     rw [hinv.out, raises_step _ _ hlt]; rfl
    clear hinv
    cases okj
    ·go_wp2_with fail
     go_roundw
     case rel => exact ⟨j + 1, false, by omega, rfl, by go_num, hx, h3, by rw [Hinv.out]; rfl⟩
     case measure => simp [intOf]; omega
    ·have Hal := Lib.hid (show (m.raises[j].toList == [65, 76, 69, 82, 84, 69, 68]) = strEq m.raises[j] alerted by rw [← alerted_toList]; rfl)
     have hprev : ∃ pl : Bool, Hid (raiseOk (prevAt m.raises j) m.raises[j] = ((strEq m.raises[j] alerted || isSymbolB m.raises[j]) && pl)) ∧
       (j = 0 ∧ pl = true ∨ ∃ i, j = i + 1 ∧ ∃ (hi : i < m.raises.length), Op.bytesLess m.raises[i].toList m.raises[j].toList = pl) := by
      cases j with
      | zero => exact ⟨true, rfl, .inl ⟨rfl, rfl⟩⟩
      | succ i => exact ⟨lessB m.raises[i] m.raises[i + 1], by simp only [Hid, raiseOk, prevAt_pos _ _ hlt], .inr ⟨i, rfl, by omega, rfl⟩⟩
     obtain ⟨pl, Hro, hpl⟩ := hprev
     have Hinv2 : Hid ((ok && raisesFrom none m.raises) = (((strEq m.raises[j] alerted || isSymbolB m.raises[j]) && pl) && raisesFrom (prevAt m.raises (j + 1)) (m.raises.drop (j + 1)))) := by
      rw [Hinv.out, Hro.out, Bool.true_and]; rfl
     have HS := Lib.hid (Hsy.out j hlt wr hx)
     generalize strEq m.raises[j] alerted = al at Hal Hinv2
     generalize isSymbolB m.raises[j] = sy at HS Hinv2
     have hal := Hal.out
     clear Hinv Hro Hal
     cases al
     ·cases sy
      ·go_wp2_with fail
       refine HS.out.mono ?_
       rintro e w1 ⟨rfl, hx1⟩
       have h3' := hx1.cell h3
       go_wp2_with fail
       go_roundw
       case rel => exact ⟨j + 1, false, by omega, rfl, by go_num, hx.trans hx1, h3', by rw [Hinv2.out]; rfl⟩
       case measure => simp [intOf]; omega
      ·rcases hpl with ⟨rfl, rfl⟩ | ⟨i, rfl, hi, hless⟩
       ·simp only [Nat.add_zero] at h0
        go_wp2_with fail
        refine HS.out.mono ?_
        rintro e w1 ⟨rfl, hx1⟩
        have h3' := hx1.cell h3
        go_wp2_with fail
        go_roundw
        case rel => exact ⟨1, true, by omega, rfl, by go_num, hx.trans hx1, h3', by rw [Hinv2.out]; rfl⟩
        case measure => simp [intOf]; omega
       ·obtain ⟨b', off', hb', h0'⟩ := Hcell.out i hi
        cases hb'
        have h0' := hx.cell h0'
        have j0 : (((i + 1 : Nat) : Int) == 0) = false := by simp; omega
        go_wp2_with fail
        refine HS.out.mono ?_
        rintro e w1 ⟨rfl, hx1⟩
        have h3' := hx1.cell h3
        have h0'' := hx1.cell h0'
        go_wp2_with fail
        go_roundw
        case rel => exact ⟨i + 1 + 1, pl, by omega, by first | rfl | rw [hless], by go_num, hx.trans hx1, h3', by rw [Hinv2.out]; rfl⟩
        case measure => simp [intOf]; omega
     ·rcases hpl with ⟨rfl, rfl⟩ | ⟨i, rfl, hi, hless⟩
      ·simp only [Nat.add_zero] at h0
       go_wp2_with fail
       go_roundw
       case rel => exact ⟨1, true, by omega, rfl, by go_num, hx, h3, by rw [Hinv2.out]; rfl⟩
       case measure => simp [intOf]; omega
      ·obtain ⟨b', off', hb', h0'⟩ := Hcell.out i hi
       cases hb'
       have h0' := hx.cell h0'
       have j0 : (((i + 1 : Nat) : Int) == 0) = false := by simp; omega
       go_wp2_with fail
       go_roundw
       case rel => exact ⟨i + 1 + 1, pl, by omega, by first | rfl | rw [hless], by go_num, hx, h3, by rw [Hinv2.out]; rfl⟩
       case measure => simp [intOf]; omega
   ·go_wp2_with fail
    go_ret
    refine ⟨?_, hx⟩
    rw [hinv.out, List.drop_of_length_le (by omega)]
    cases okj <;> rfl
end Go.Proofs.YtldnjnnhfeobdaaGreatDoor
/- Contracts: what an object type has beside its brand. Conditions: lengths below 2^20. -/
namespace Go.Proofs.YtldnjnnhfeobdaaGreatDoor
open Go.RowKit Go.Shelf
def badMethod (n : Nat) (m : Method) : Bool := !sigB n m || (!strEq m.proc ByteArray.empty && !isSymbolB m.proc)
def badOver (o : Over) : Bool := !isSymbolB o.proc
def MethodSmall (m : Method) : Prop := m.name.size ≤ 1048576 ∧ m.proc.size ≤ 1048576 ∧ m.args.length ≤ 1048576 ∧ m.raises.length ≤ 1048576 ∧ ∀ r ∈ m.raises, r.size ≤ 1048576
set_option maxRecDepth 100000 in
set_option maxHeartbeats 4000000 in
theorem object3 (w : World) (B : Nat) (A : Option Addr) (n cap : Nat) (m : Method) (va vr : Value) (hn : n ≤ 1048576) (hG : Glob w) (ha : Sl intE w va m.args) (hr : Sl strE w vr m.raises) (hm : MethodSmall m)
  (hc : w.cell? ⟨B, 0, none⟩ = some (.slice A n cap)) :
  Calls Tryz.prog 225 #[.agg #[.string m.name, va, .int .i64 m.result, vr, .string m.proc], .pointer (some ⟨B, 0, none⟩)] w (Ret w (.bool (badMethod n m))) := by
 have hlt := cell_lt hc
 obtain ⟨_, hm2, hm3, hm4, hm5⟩ := hm
 have hsg := fun (w' : World) (hx : Ext w w') => signed_any w' A n cap m va vr hn (hG.mono hx) (ha.mono hx) (hr.mono hx) hm3 hm4 hm5
 have hsy := fun (w' : World) (hx : Ext w w') => isSymbol_any m.proc w' hm2 (hG.mono hx)
 obtain ⟨Aa, ca, rfl⟩ := ha.len
 obtain ⟨Ar, cr, rfl⟩ := hr.len
 unfold badMethod
 rw [strEq_empty]
 generalize sigB n m = r at hsg ⊢
 generalize isSymbolB m.proc = q at hsy ⊢
 have Hsg := Lib.hid hsg
 have Hsy := Lib.hid hsy
 clear hsg hsy ha hr hG hm5
 cases r
 ·go_enter Tryz.func225, Tryz.ntmps225
  go_wp2_with fail
  refine (Hsg.out _ ((Ext.refl _).alloc _)).mono ?_
  rintro e w1 ⟨rfl, hx1⟩
  go_wp2_with fail
  go_ret
  exact ⟨rfl, ((Ext.refl _).alloc _).trans hx1⟩
 ·cases hp : m.proc.toList.isEmpty
  ·go_enter Tryz.func225, Tryz.ntmps225
   go_wp2_with fail
   refine (Hsg.out _ ((Ext.refl _).alloc _)).mono ?_
   rintro e w1 ⟨rfl, hx1⟩
   have c2 := hx1.cell (v := .string m.proc) (p := ⟨w.heap.size, 4, none⟩) (by simp)
   go_wp2_with fail
   refine (Hsy.out _ (((Ext.refl _).alloc _).trans hx1)).mono ?_
   rintro e w2 ⟨rfl, hx2⟩
   go_wp2_with fail
   go_ret
   exact ⟨by cases q <;> rfl, (((Ext.refl _).alloc _).trans hx1).trans hx2⟩
  ·go_enter Tryz.func225, Tryz.ntmps225
   go_wp2_with fail
   refine (Hsg.out _ ((Ext.refl _).alloc _)).mono ?_
   rintro e w1 ⟨rfl, hx1⟩
   have c2 := hx1.cell (v := .string m.proc) (p := ⟨w.heap.size, 4, none⟩) (by simp)
   go_wp2_with fail
   go_ret
   exact ⟨rfl, ((Ext.refl _).alloc _).trans hx1⟩
set_option maxRecDepth 100000 in
theorem object4 (w : World) (o : Over) (hG : Glob w) (hs : o.proc.size ≤ 1048576) : Calls Tryz.prog 228 #[.agg #[.string o.name, .string o.proc]] w (Ret w (.bool (badOver o))) := by
 have hsy := fun (w' : World) (hx : Ext w w') => isSymbol_any o.proc w' hs (hG.mono hx)
 unfold badOver
 generalize isSymbolB o.proc = q at hsy ⊢
 have Hsy := Lib.hid hsy
 clear hsy hG
 go_enter Tryz.func228, Tryz.ntmps228
 go_wp2_with fail
 refine (Hsy.out _ ((Ext.refl _).alloc _)).mono ?_
 rintro e w1 ⟨rfl, hx1⟩
 go_wp2_with fail
 go_ret
 exact ⟨rfl, ((Ext.refl _).alloc _).trans hx1⟩
theorem pred225 (w : World) (B : Nat) (A : Option Addr) (n cap : Nat) (xs : List Method) (hn : n ≤ 1048576) (hG : Glob w) (hs : ∀ m ∈ xs, MethodSmall m) (hc : w.cell? ⟨B, 0, none⟩ = some (.slice A n cap)) :
  Pred methodE w 225 #[.pointer (some ⟨B, 0, none⟩)] xs (badMethod n) :=
 ⟨enters_of Tryz.func225 (by kernel_rfl) rfl, by
  rintro x hx w' A' hxt ⟨cs, ⟨va, vr, rfl, ha, hr⟩, rfl⟩
  exact object3 w' B A n cap x va vr hn (hG.mono hxt) ha hr (hs x hx) (hxt.cell hc)⟩
theorem pred228 (w : World) (xs : List Over) (hG : Glob w) (hs : ∀ o ∈ xs, o.name.size ≤ 1048576 ∧ o.proc.size ≤ 1048576) : Pred overE w 228 #[] xs badOver :=
 ⟨enters_of Tryz.func228 (by kernel_rfl) rfl, by
  rintro x hx w' A' hxt ⟨cs, rfl, rfl⟩
  exact object4 w' x (hG.mono hxt) (hs x hx).2⟩
def objectB (g : Graph) (t : Ty) : Bool :=
 !(t.methods.any (badMethod g.length) || t.overs.any badOver) && (differentB (t.methods.map Method.name) 8 && (differentB (t.overs.map Over.name) 8 && overB g t.super kindsObject))
set_option maxRecDepth 100000 in
set_option maxHeartbeats 8000000 in
theorem object_any (w : World) (gv : Value) (g : Graph) (t : Ty) (vp vm vo : Value) (hg : Sl tyE w gv g) (hgn : g.length ≤ 1048576) (hG : Glob w) (hof : TyOf w t vp vm vo) (hs : TySmall t) :
  Calls Tryz.prog 195 #[.agg #[gv], tyV t vp vm vo] w (Ret w (.bool (objectB g t))) := by
 obtain ⟨A, cap, rfl⟩ := hg.len
 obtain ⟨Ap, cp, rfl⟩ := hof.parts.len
 obtain ⟨Am, cm, rfl⟩ := hof.methods.len
 obtain ⟨Ao, co, rfl⟩ := hof.overs.len
 have hms : ∀ m ∈ t.methods, MethodSmall m := hs.method
 have hmn : ∀ s ∈ t.methods.map Method.name, s.size ≤ 1048576 := by
  intro s h; obtain ⟨p, hp, rfl⟩ := List.mem_map.1 h; exact (hs.method p hp).1
 have hon : ∀ s ∈ t.overs.map Over.name, s.size ≤ 1048576 := by
  intro s h; obtain ⟨p, hp, rfl⟩ := List.mem_map.1 h; exact (hs.over p hp).1
 have h1 := fun (w1 : World) (h1 : Ext w w1) => turned_method_str 221 #[] w1 _ t.methods Method.name (hof.methods.mono h1) hs.methods (map221 w1 t.methods)
 have h2 := fun (w1 : World) (h1 : Ext w w1) => turned_over_str 223 #[] w1 _ t.overs Over.name (hof.overs.mono h1) hs.overs (map223 w1 t.overs)
 have h3 := fun (w' : World) (hx : Ext w w') (hc : w'.cell? ⟨w.heap.size, 0, none⟩ = some (.slice A g.length cap)) =>
  containsFunc_method 225 #[.pointer (some ⟨w.heap.size, 0, none⟩)] w' _ _ _ (hof.methods.mono hx) hs.methods (pred225 w' _ A g.length cap t.methods hgn (hG.mono hx) hms hc)
 have h4 := fun (w' : World) (hx : Ext w w') => containsFunc_over 228 #[] w' _ _ _ (hof.overs.mono hx) hs.overs (pred228 w' t.overs (hG.mono hx) hs.over)
 have h5 := fun (w1 : World) (v : Value) (h1 : Sl strE w1 v (t.methods.map Method.name)) => different_any w1 v (t.methods.map Method.name) 8 h1 (by simpa using hs.methods) hmn
 have h6 := fun (w1 : World) (v : Value) (h1 : Sl strE w1 v (t.overs.map Over.name)) => different_any w1 v (t.overs.map Over.name) 8 h1 (by simpa using hs.overs) hon
 have h7 := fun (w1 : World) (v : Value) (h1 : Ext w w1) (h2 : Sl byteE w1 v kindsObject) => over_any w1 _ v g t.super kindsObject (hg.mono h1) h2 hgn (by decide)
 unfold objectB tyV
 have H1 := Lib.hid h1
 have H2 := Lib.hid h2
 have H3 := Lib.hid h3
 have H4 := Lib.hid h4
 have H5 := Lib.hid h5
 have H6 := Lib.hid h6
 have H7 := Lib.hid h7
 have hnm := hs.methods
 have hno := hs.overs
 clear h1 h2 h3 h4 h5 h6 h7 hg hG hof hs hms hmn hon
 generalize t.methods.any (badMethod g.length) = r3 at H3 ⊢
 generalize t.overs.any badOver = r4 at H4 ⊢
 generalize differentB (t.methods.map Method.name) 8 = r5 at H5 ⊢
 generalize differentB (t.overs.map Over.name) 8 = r6 at H6 ⊢
 generalize overB g t.super kindsObject = r7 at H7 ⊢
 go_enter Tryz.func195, Tryz.ntmps195
 go_wp2_with fail
 refine (H1.out _ (((Ext.refl _).alloc _).alloc _)).mono ?_
 rintro e w1 ⟨v1, rfl, hs1, hx1⟩
 have hsl1 := hs1.any
 obtain ⟨A1, cap1, e1⟩ := hsl1.len
 rw [List.length_map] at e1
 subst e1
 have hxa := (((Ext.refl w).alloc _).alloc _).trans hx1
 have c9 := hx1.cell (v := .slice Ao t.overs.length co) (p := ⟨w.heap.size + 1, 9, none⟩) (by simp)
 have c8 := hx1.cell (v := .slice Am t.methods.length cm) (p := ⟨w.heap.size + 1, 8, none⟩) (by simp)
 have c6 := hx1.cell (v := .int .i64 t.super) (p := ⟨w.heap.size + 1, 6, none⟩) (by simp)
 have cg := hx1.cell (v := .slice A g.length cap) (p := ⟨w.heap.size, 0, none⟩) (by simp)
 have Hsl1 := Lib.hid hsl1
 clear hs1 hsl1 hx1
 go_wp2_with fail
 refine (H2.out _ hxa).mono ?_
 rintro e w2 ⟨v2, rfl, hs2, hx2⟩
 have hsl2 := hs2.any
 obtain ⟨A2, cap2, e2⟩ := hsl2.len
 rw [List.length_map] at e2
 subst e2
 have hxb := hxa.trans hx2
 replace c9 := hx2.cell c9
 replace c8 := hx2.cell c8
 replace c6 := hx2.cell c6
 replace cg := hx2.cell cg
 replace Hsl1 := Lib.hid (Hsl1.out.mono hx2)
 have Hsl2 := Lib.hid hsl2
 clear hs2 hsl2 hx2 hxa
 go_wp2_with fail
 refine (H3.out _ hxb cg).mono ?_
 rintro e w3 ⟨rfl, hx3⟩
 have hxc := hxb.trans hx3
 replace c9 := hx3.cell c9
 replace c6 := hx3.cell c6
 replace cg := hx3.cell cg
 replace Hsl1 := Lib.hid (Hsl1.out.mono hx3)
 replace Hsl2 := Lib.hid (Hsl2.out.mono hx3)
 clear hx3 hxb c8
 cases r3
 ·go_wp2_with fail
  refine (H4.out _ hxc).mono ?_
  rintro e w4 ⟨rfl, hx4⟩
  have hxd := hxc.trans hx4
  replace c9 := hx4.cell c9
  replace c6 := hx4.cell c6
  replace cg := hx4.cell cg
  replace Hsl1 := Lib.hid (Hsl1.out.mono hx4)
  replace Hsl2 := Lib.hid (Hsl2.out.mono hx4)
  clear hx4 hxc
  cases r4
  ·go_wp2_with fail
   refine (H5.out _ _ Hsl1.out).mono ?_
   rintro e w5 ⟨rfl, hx5⟩
   have hxe := hxd.trans hx5
   replace c6 := hx5.cell c6
   replace cg := hx5.cell cg
   replace Hsl2 := Lib.hid (Hsl2.out.mono hx5)
   clear hx5 hxd Hsl1 c9
   cases r5
   ·go_wp2_with fail
    go_ret
    exact ⟨rfl, hxe⟩
   ·go_wp2_with fail
    refine (H6.out _ _ Hsl2.out).mono ?_
    rintro e w6 ⟨rfl, hx6⟩
    have hxf := hxe.trans hx6
    replace c6 := hx6.cell c6
    replace cg := hx6.cell cg
    clear hx6 hxe Hsl2
    cases r6
    ·go_wp2_with fail
     go_ret
     exact ⟨rfl, hxf⟩
    ·go_wp2_with fail
     refine (H7.out _ _ (hxf.alloc _) (lit_bytes w6 kindsObject 5 rfl)).mono ?_
     rintro e w7 ⟨rfl, hx7⟩
     have hxg := (hxf.alloc _).trans hx7
     go_wp2_with fail
     go_ret
     exact ⟨rfl, hxg⟩
  ·go_wp2_with fail
   go_ret
   exact ⟨rfl, hxd⟩
 ·go_wp2_with fail
  go_ret
  exact ⟨rfl, hxc⟩
end Go.Proofs.YtldnjnnhfeobdaaGreatDoor
/- Contract: the rule on object types. Conditions: lengths below 2^20. -/
namespace Go.Proofs.YtldnjnnhfeobdaaGreatDoor
open Go.RowKit Go.Shelf
def objectsB (g : Graph) (t : Ty) : Bool := brandedB g.length t && (differentB (t.parts.map Part.name) 8 && objectB g t)
def noObject (t : Ty) : Ty := { noBrand t with parts := [], methods := [], overs := [], super := 0 }
theorem TySmall.noBrand {t : Ty} (h : TySmall t) : TySmall (noBrand t) := ⟨by show ByteArray.empty.size ≤ _; simp, h.opaq, h.parts, h.part, h.methods, h.method, h.overs, h.over⟩
theorem TyOf.noBrand {w : World} {t : Ty} {vp vm vo : Value} (h : TyOf w t vp vm vo) : TyOf w (noBrand t) vp vm vo := ⟨h.parts, h.methods, h.overs⟩
set_option maxRecDepth 100000 in
set_option maxHeartbeats 8000000 in
theorem objects_rule : Rule 159 objectsB noObject := by
 intro w0 w gv g b t vp vm vo hx hB hG hg hgn hof hs hb
 obtain ⟨A, cap, rfl⟩ := hg.len
 obtain ⟨A1, cap1, rfl⟩ := hof.parts.len
 obtain ⟨A2, cap2, rfl⟩ := hof.methods.len
 obtain ⟨A3, cap3, rfl⟩ := hof.overs.len
 have hlt := hb.lt
 unfold objectsB
 have hfin : ∀ w1 : World, Ext w0 w1 → TyBox w1 b (noBrand t) (.slice A1 t.parts.length cap1) (.slice A2 t.methods.length cap2) (.slice A3 t.overs.length cap3) → ∀ r, RulePost w0 b r (noObject t) (.returned (.bool r))
   ((((w1.setCell ⟨b, 7, none⟩ (.slice none 0 0)).setCell ⟨b, 8, none⟩ (.slice none 0 0)).setCell ⟨b, 9, none⟩ (.slice none 0 0)).setCell ⟨b, 6, none⟩ (.int .i64 0)) := fun w1 h1 h2 r => by
  have s1 := TyBox.set h1 hB h2 7 (.slice none 0 0)
  have s2 := TyBox.set s1.1 hB s1.2 8 (.slice none 0 0)
  have s3 := TyBox.set s2.1 hB s2.2 9 (.slice none 0 0)
  have s4 := TyBox.set s3.1 hB s3.2 6 (.int .i64 0)
  exact ⟨rfl, s4.1, _, _, _, s4.2, Len.nil, Len.nil, Len.nil⟩
 have hbr := branded_any (w.alloc (.cells #[.slice A g.length cap] 77)).drew A g.length cap b t _ _ _ hgn hs.brand (hof.parts.mono (hx.alloc _).drew) hs.parts (hb.ext ((Ext.refl _).alloc _).drew)
 have htur := fun (w1 : World) (h1 : Ext w0 w1) => turned_part_str 194 #[] w1 _ t.parts Part.name (hof.parts.mono h1) hs.parts (map194 w1 t.parts)
 have hdif := fun (w1 : World) (v : Value) (h1 : Sl strE w1 v (t.parts.map Part.name)) => different_any w1 v (t.parts.map Part.name) 8 h1 (by simpa using hs.parts) (small_names hs)
 have hobj := fun (w1 : World) (h1 : Ext w0 w1) => object_any w1 _ g (noBrand t) _ _ _ (hg.mono h1) hgn (hG.mono h1) (hof.mono h1).noBrand hs.noBrand
 have hbox : ∀ w1, (w.alloc (.cells #[.slice A g.length cap] 77)).drew.grownBy w1 (some b) → Ext w0 w1 ∧ w1.cell? ⟨w.heap.size, 0, none⟩ = some (.slice A g.length cap) := fun w1 h =>
  ⟨Below.grown (hx.alloc (.cells #[.slice A g.length cap] 77)).drew h (by simp; have := hx.size; omega) (fun k hk => by cases hk; exact hB), h.cell (v := .slice A g.length cap) (by simp) (by simp; omega)⟩
 change ∀ w1, _ → Calls _ _ _ _ (Ret w1 (.bool (objectB g t))) at hobj
 generalize differentB (t.parts.map Part.name) 8 = r2 at hdif ⊢
 generalize objectB g t = r3 at hobj ⊢
 generalize brandedB g.length t = r1 at hbr ⊢
 have Hbr := Lib.hid hbr
 have Hfin := Lib.hid hfin
 have Htur := Lib.hid htur
 have Hdif := Lib.hid hdif
 have Hobj := Lib.hid hobj
 have Hbox := Lib.hid hbox
 have hpn := hs.parts
 clear hx hb hG hg hof hs hbr hfin htur hdif hobj hbox
 cases r1
 ·clear Htur Hdif Hobj
  go_enter Tryz.func159, Tryz.ntmps159
  go_wp2_with fail
  refine wp_region_anyX (by kernel_rfl) ?_
  refine any_val (i := 1) (v := ?_) (some 7) #[false, true, false, false, false, false, false, false, false, false, false, false, false, false, false, false, false, false, false] rfl rfl rfl (by kernel_rfl) (by kernel_rfl) (by kernel_rfl) (fun _ _ _ h => h) (Or.inl ⟨by rfl, ?_⟩) ?_
  rotate_left
  ·intro w
   go_simp
   (first | done | exact rfl)
  simp only [Act.put, List.setIfInBounds_toArray, List.set_cons_zero, List.set_cons_succ]
  refine wpAny_ready (rs := [0]) (by kernel_rfl) (by simp) (AllReady.cons rfl (fun K hK => ?_) AllReady.nil)
  go_simp
  refine hK _ _ ?_
  clear hK K
  refine wpAny_ready (rs := [2]) (by kernel_rfl) (by simp) (AllReady.cons rfl (fun K hK => ?_) AllReady.nil)
  go_simp
  refine Hbr.out.mono ?_
  rintro e w1 ⟨rfl, hb1, hg1⟩
  obtain ⟨hx1, hc1⟩ := Hbox.out w1 hg1
  have Hx1 := Lib.hid hx1
  have Hb1 := Lib.hid hb1
  have c7 := hb1.at.c7
  simp only [Nat.zero_add] at c7
  clear hb1 hg1 hx1
  refine hK _ _ ?_
  clear hK K
  refine any_val (i := 3) (v := ?_) (some 9) #[true, true, true, true, false, false, false, false, false, false, false, false, false, false, false, false, false, false, false] rfl rfl rfl (by kernel_rfl) (by kernel_rfl) (by kernel_rfl) (fun _ _ _ h => h) (Or.inl ⟨by rfl, ?_⟩) ?_
  rotate_left
  ·intro w
   go_simp
   (first | done | exact rfl)
  simp only [Act.put, List.setIfInBounds_toArray, List.set_cons_zero, List.set_cons_succ]
  refine any_val (i := 4) (v := undef) (some 10) #[true, true, true, true, true, false, false, false, false, false, false, false, false, false, false, false, false, false, false] rfl rfl rfl (by kernel_rfl) (by kernel_rfl) (by kernel_rfl) (fun _ _ _ h => h) (Or.inr ⟨by rfl, rfl⟩) ?_
  simp only [Act.put, List.setIfInBounds_toArray, List.set_cons_zero, List.set_cons_succ]
  refine any_val (i := 5) (v := undef) (some 11) #[true, true, true, true, true, true, false, false, false, false, false, false, false, false, false, false, false, false, false] rfl rfl rfl (by kernel_rfl) (by kernel_rfl) (by kernel_rfl) (fun _ _ _ h => h) (Or.inr ⟨by rfl, rfl⟩) ?_
  simp only [Act.put, List.setIfInBounds_toArray, List.set_cons_zero, List.set_cons_succ]
  refine any_val (i := 6) (v := undef) (some 12) #[true, true, true, true, true, true, true, false, false, false, false, false, false, false, false, false, false, false, false] rfl rfl rfl (by kernel_rfl) (by kernel_rfl) (by kernel_rfl) (fun _ _ _ h => h) (Or.inr ⟨by rfl, rfl⟩) ?_
  simp only [Act.put, List.setIfInBounds_toArray, List.set_cons_zero, List.set_cons_succ]
  refine any_val (i := 7) (v := undef) (some 13) #[true, true, true, true, true, true, true, true, false, false, false, false, false, false, false, false, false, false, false] rfl rfl rfl (by kernel_rfl) (by kernel_rfl) (by kernel_rfl) (fun _ _ _ h => h) (Or.inr ⟨by rfl, rfl⟩) ?_
  simp only [Act.put, List.setIfInBounds_toArray, List.set_cons_zero, List.set_cons_succ]
  refine any_val (i := 8) (v := undef) (some 14) #[true, true, true, true, true, true, true, true, true, false, false, false, false, false, false, false, false, false, false] rfl rfl rfl (by kernel_rfl) (by kernel_rfl) (by kernel_rfl) (fun _ _ _ h => h) (Or.inr ⟨by rfl, rfl⟩) ?_
  simp only [Act.put, List.setIfInBounds_toArray, List.set_cons_zero, List.set_cons_succ]
  refine any_val (i := 9) (v := undef) (some 15) #[true, true, true, true, true, true, true, true, true, true, false, false, false, false, false, false, false, false, false] rfl rfl rfl (by kernel_rfl) (by kernel_rfl) (by kernel_rfl) (fun _ _ _ h => h) (Or.inr ⟨by rfl, rfl⟩) ?_
  simp only [Act.put, List.setIfInBounds_toArray, List.set_cons_zero, List.set_cons_succ]
  refine any_val (i := 10) (v := ?_) (some 16) #[true, true, true, true, true, true, true, true, true, true, true, false, false, false, false, false, false, false, false] rfl rfl rfl (by kernel_rfl) (by kernel_rfl) (by kernel_rfl) (fun _ _ _ h => h) (Or.inl ⟨by rfl, ?_⟩) ?_
  rotate_left
  ·intro w
   go_simp
   (first | done | exact rfl)
  simp only [Act.put, List.setIfInBounds_toArray, List.set_cons_zero, List.set_cons_succ]
  refine any_val (i := 11) (v := ?_) (some 17) #[true, true, true, true, true, true, true, true, true, true, true, true, false, false, false, false, false, false, false] rfl rfl rfl (by kernel_rfl) (by kernel_rfl) (by kernel_rfl) (fun _ _ _ h => h) (Or.inl ⟨by rfl, ?_⟩) ?_
  rotate_left
  ·intro w
   go_simp
   (first | done | exact rfl)
  simp only [Act.put, List.setIfInBounds_toArray, List.set_cons_zero, List.set_cons_succ]
  refine any_val (i := 12) (v := undef) (some 18) #[true, true, true, true, true, true, true, true, true, true, true, true, true, false, false, false, false, false, false] rfl rfl rfl (by kernel_rfl) (by kernel_rfl) (by kernel_rfl) (fun _ _ _ h => h) (Or.inr ⟨by rfl, rfl⟩) ?_
  simp only [Act.put, List.setIfInBounds_toArray, List.set_cons_zero, List.set_cons_succ]
  refine any_val (i := 13) (v := undef) (some 19) #[true, true, true, true, true, true, true, true, true, true, true, true, true, true, false, false, false, false, false] rfl rfl rfl (by kernel_rfl) (by kernel_rfl) (by kernel_rfl) (fun _ _ _ h => h) (Or.inr ⟨by rfl, rfl⟩) ?_
  simp only [Act.put, List.setIfInBounds_toArray, List.set_cons_zero, List.set_cons_succ]
  refine any_val (i := 14) (v := undef) (some 20) #[true, true, true, true, true, true, true, true, true, true, true, true, true, true, true, false, false, false, false] rfl rfl rfl (by kernel_rfl) (by kernel_rfl) (by kernel_rfl) (fun _ _ _ h => h) (Or.inr ⟨by rfl, rfl⟩) ?_
  simp only [Act.put, List.setIfInBounds_toArray, List.set_cons_zero, List.set_cons_succ]
  refine any_val (i := 15) (v := undef) (some 21) #[true, true, true, true, true, true, true, true, true, true, true, true, true, true, true, true, false, false, false] rfl rfl rfl (by kernel_rfl) (by kernel_rfl) (by kernel_rfl) (fun _ _ _ h => h) (Or.inr ⟨by rfl, rfl⟩) ?_
  simp only [Act.put, List.setIfInBounds_toArray, List.set_cons_zero, List.set_cons_succ]
  refine any_val (i := 16) (v := undef) (some 22) #[true, true, true, true, true, true, true, true, true, true, true, true, true, true, true, true, true, false, false] rfl rfl rfl (by kernel_rfl) (by kernel_rfl) (by kernel_rfl) (fun _ _ _ h => h) (Or.inr ⟨by rfl, rfl⟩) ?_
  simp only [Act.put, List.setIfInBounds_toArray, List.set_cons_zero, List.set_cons_succ]
  refine any_val (i := 17) (v := ?_) (some 23) #[true, true, true, true, true, true, true, true, true, true, true, true, true, true, true, true, true, true, false] rfl rfl rfl (by kernel_rfl) (by kernel_rfl) (by kernel_rfl) (fun _ _ _ h => h) (Or.inl ⟨by rfl, ?_⟩) ?_
  rotate_left
  ·intro w
   go_simp
   (first | done | exact rfl)
  simp only [Act.put, List.setIfInBounds_toArray, List.set_cons_zero, List.set_cons_succ]
  refine any_val (i := 18) (v := ?_) (some 5) #[true, true, true, true, true, true, true, true, true, true, true, true, true, true, true, true, true, true, true] rfl rfl rfl (by kernel_rfl) (by kernel_rfl) (by kernel_rfl) (fun _ _ _ h => h) (Or.inl ⟨by rfl, ?_⟩) ?_
  rotate_left
  ·intro w
   go_simp
   (first | done | exact rfl)
  simp only [Act.put, List.setIfInBounds_toArray, List.set_cons_zero, List.set_cons_succ]
  refine wpAny_done (by kernel_rfl) ?_ _
  have f6 := heap_frozen Hb1.out 6
  have f7 := heap_frozen Hb1.out 7
  have f8 := heap_frozen Hb1.out 8
  have f9 := heap_frozen Hb1.out 9
  obtain ⟨_, _, _, _, _, _, d6, d7, d8, d9⟩ := Hb1.out.at
  simp only [Nat.zero_add] at d6 d7 d8 d9
  go_wp2_with fail
  go_ret
  exact Hfin.out _ Hx1.out Hb1.out _
 ·cases r2
  ·clear Hobj
   go_enter Tryz.func159, Tryz.ntmps159
   go_wp2_with fail
   refine wp_region_anyX (by kernel_rfl) ?_
   refine any_val (i := 1) (v := ?_) (some 7) #[false, true, false, false, false, false, false, false, false, false, false, false, false, false, false, false, false, false, false] rfl rfl rfl (by kernel_rfl) (by kernel_rfl) (by kernel_rfl) (fun _ _ _ h => h) (Or.inl ⟨by rfl, ?_⟩) ?_
   rotate_left
   ·intro w
    go_simp
    (first | done | exact rfl)
   simp only [Act.put, List.setIfInBounds_toArray, List.set_cons_zero, List.set_cons_succ]
   refine wpAny_ready (rs := [0]) (by kernel_rfl) (by simp) (AllReady.cons rfl (fun K hK => ?_) AllReady.nil)
   go_simp
   refine hK _ _ ?_
   clear hK K
   refine wpAny_ready (rs := [2]) (by kernel_rfl) (by simp) (AllReady.cons rfl (fun K hK => ?_) AllReady.nil)
   go_simp
   refine Hbr.out.mono ?_
   rintro e w1 ⟨rfl, hb1, hg1⟩
   obtain ⟨hx1, hc1⟩ := Hbox.out w1 hg1
   have Hx1 := Lib.hid hx1
   have Hb1 := Lib.hid hb1
   have c7 := hb1.at.c7
   simp only [Nat.zero_add] at c7
   clear hb1 hg1 hx1
   refine hK _ _ ?_
   clear hK K
   refine any_val (i := 3) (v := ?_) (some 9) #[true, true, true, true, false, false, false, false, false, false, false, false, false, false, false, false, false, false, false] rfl rfl rfl (by kernel_rfl) (by kernel_rfl) (by kernel_rfl) (fun _ _ _ h => h) (Or.inl ⟨by rfl, ?_⟩) ?_
   rotate_left
   ·intro w
    go_simp
    (first | done | exact rfl)
   simp only [Act.put, List.setIfInBounds_toArray, List.set_cons_zero, List.set_cons_succ]
   refine any_val (i := 4) (v := ?_) (some 10) #[true, true, true, true, true, false, false, false, false, false, false, false, false, false, false, false, false, false, false] rfl rfl rfl (by kernel_rfl) (by kernel_rfl) (by kernel_rfl) (fun _ _ _ h => h) (Or.inl ⟨by rfl, ?_⟩) ?_
   rotate_left
   ·intro w
    go_simp
    (first | done | exact rfl)
   simp only [Act.put, List.setIfInBounds_toArray, List.set_cons_zero, List.set_cons_succ]
   refine any_val (i := 5) (v := ?_) (some 11) #[true, true, true, true, true, true, false, false, false, false, false, false, false, false, false, false, false, false, false] rfl rfl rfl (by kernel_rfl) (by kernel_rfl) (by kernel_rfl) (fun _ _ _ h => h) (Or.inl ⟨by rfl, ?_⟩) ?_
   rotate_left
   ·intro w
    go_simp
    (first | done | exact rfl)
   simp only [Act.put, List.setIfInBounds_toArray, List.set_cons_zero, List.set_cons_succ]
   refine any_val (i := 6) (v := ?_) (some 12) #[true, true, true, true, true, true, true, false, false, false, false, false, false, false, false, false, false, false, false] rfl rfl rfl (by kernel_rfl) (by kernel_rfl) (by kernel_rfl) (fun _ _ _ h => h) (Or.inl ⟨by rfl, ?_⟩) ?_
   rotate_left
   ·intro w
    go_simp
    (first | done | exact rfl)
   simp only [Act.put, List.setIfInBounds_toArray, List.set_cons_zero, List.set_cons_succ]
   refine wpAny_ready (rs := [7]) (by kernel_rfl) (by simp) (AllReady.cons rfl (fun K hK => ?_) AllReady.nil)
   go_simp
   refine hK _ _ ?_
   clear hK K
   refine wpAny_ready (rs := [8]) (by kernel_rfl) (by simp) (AllReady.cons rfl (fun K hK => ?_) AllReady.nil)
   go_simp
   refine (Htur.out _ Hx1.out).mono ?_
   rintro e w2 ⟨v2, rfl, hs2, hx2⟩
   have hsl := hs2.any
   obtain ⟨Av, capv, e2⟩ := hsl.len
   rw [List.length_map] at e2
   subst e2
   have Hx2 := Lib.hid (Hx1.out.trans hx2)
   have Hb2 := Lib.hid (Hb1.out.ext hx2)
   have hc2 := hx2.cell hc1
   have Hsl := Lib.hid hsl
   clear hs2 hsl hx2 c7 hc1
   refine hK _ _ ?_
   clear hK K
   refine wpAny_ready (rs := [9]) (by kernel_rfl) (by simp) (AllReady.cons rfl (fun K hK => ?_) AllReady.nil)
   go_simp
   refine (Hdif.out _ _ Hsl.out).mono ?_
   rintro e w3 ⟨rfl, hx3⟩
   have Hx3 := Lib.hid (Hx2.out.trans hx3)
   have Hb3 := Lib.hid (Hb2.out.ext hx3)
   have hc3 := hx3.cell hc2
   obtain ⟨b0, b1, b2, b3, b4, b5, b6, b7, b8, b9⟩ := Hb3.out.at
   simp only [Nat.zero_add] at b0 b1 b2 b3 b4 b5 b6 b7 b8 b9
   clear hx3 hc2
   refine hK _ _ ?_
   clear hK K
   refine any_val (i := 10) (v := ?_) (some 16) #[true, true, true, true, true, true, true, true, true, true, true, false, false, false, false, false, false, false, false] rfl rfl rfl (by kernel_rfl) (by kernel_rfl) (by kernel_rfl) (fun _ _ _ h => h) (Or.inl ⟨by rfl, ?_⟩) ?_
   rotate_left
   ·intro w
    go_simp
    (first | done | exact rfl)
   simp only [Act.put, List.setIfInBounds_toArray, List.set_cons_zero, List.set_cons_succ]
   refine any_val (i := 11) (v := ?_) (some 17) #[true, true, true, true, true, true, true, true, true, true, true, true, false, false, false, false, false, false, false] rfl rfl rfl (by kernel_rfl) (by kernel_rfl) (by kernel_rfl) (fun _ _ _ h => h) (Or.inl ⟨by rfl, ?_⟩) ?_
   rotate_left
   ·intro w
    go_simp
    (first | done | exact rfl)
   simp only [Act.put, List.setIfInBounds_toArray, List.set_cons_zero, List.set_cons_succ]
   refine any_val (i := 12) (v := undef) (some 18) #[true, true, true, true, true, true, true, true, true, true, true, true, true, false, false, false, false, false, false] rfl rfl rfl (by kernel_rfl) (by kernel_rfl) (by kernel_rfl) (fun _ _ _ h => h) (Or.inr ⟨by rfl, rfl⟩) ?_
   simp only [Act.put, List.setIfInBounds_toArray, List.set_cons_zero, List.set_cons_succ]
   refine any_val (i := 13) (v := undef) (some 19) #[true, true, true, true, true, true, true, true, true, true, true, true, true, true, false, false, false, false, false] rfl rfl rfl (by kernel_rfl) (by kernel_rfl) (by kernel_rfl) (fun _ _ _ h => h) (Or.inr ⟨by rfl, rfl⟩) ?_
   simp only [Act.put, List.setIfInBounds_toArray, List.set_cons_zero, List.set_cons_succ]
   refine any_val (i := 14) (v := undef) (some 20) #[true, true, true, true, true, true, true, true, true, true, true, true, true, true, true, false, false, false, false] rfl rfl rfl (by kernel_rfl) (by kernel_rfl) (by kernel_rfl) (fun _ _ _ h => h) (Or.inr ⟨by rfl, rfl⟩) ?_
   simp only [Act.put, List.setIfInBounds_toArray, List.set_cons_zero, List.set_cons_succ]
   refine any_val (i := 15) (v := undef) (some 21) #[true, true, true, true, true, true, true, true, true, true, true, true, true, true, true, true, false, false, false] rfl rfl rfl (by kernel_rfl) (by kernel_rfl) (by kernel_rfl) (fun _ _ _ h => h) (Or.inr ⟨by rfl, rfl⟩) ?_
   simp only [Act.put, List.setIfInBounds_toArray, List.set_cons_zero, List.set_cons_succ]
   refine any_val (i := 16) (v := undef) (some 22) #[true, true, true, true, true, true, true, true, true, true, true, true, true, true, true, true, true, false, false] rfl rfl rfl (by kernel_rfl) (by kernel_rfl) (by kernel_rfl) (fun _ _ _ h => h) (Or.inr ⟨by rfl, rfl⟩) ?_
   simp only [Act.put, List.setIfInBounds_toArray, List.set_cons_zero, List.set_cons_succ]
   refine any_val (i := 17) (v := ?_) (some 23) #[true, true, true, true, true, true, true, true, true, true, true, true, true, true, true, true, true, true, false] rfl rfl rfl (by kernel_rfl) (by kernel_rfl) (by kernel_rfl) (fun _ _ _ h => h) (Or.inl ⟨by rfl, ?_⟩) ?_
   rotate_left
   ·intro w
    go_simp
    (first | done | exact rfl)
   simp only [Act.put, List.setIfInBounds_toArray, List.set_cons_zero, List.set_cons_succ]
   refine any_val (i := 18) (v := ?_) (some 5) #[true, true, true, true, true, true, true, true, true, true, true, true, true, true, true, true, true, true, true] rfl rfl rfl (by kernel_rfl) (by kernel_rfl) (by kernel_rfl) (fun _ _ _ h => h) (Or.inl ⟨by rfl, ?_⟩) ?_
   rotate_left
   ·intro w
    go_simp
    (first | done | exact rfl)
   simp only [Act.put, List.setIfInBounds_toArray, List.set_cons_zero, List.set_cons_succ]
   refine wpAny_done (by kernel_rfl) ?_ _
   have f6 := heap_frozen Hb3.out 6
   have f7 := heap_frozen Hb3.out 7
   have f8 := heap_frozen Hb3.out 8
   have f9 := heap_frozen Hb3.out 9
   obtain ⟨_, _, _, _, _, _, d6, d7, d8, d9⟩ := Hb3.out.at
   simp only [Nat.zero_add] at d6 d7 d8 d9
   go_wp2_with fail
   go_ret
   exact Hfin.out _ Hx3.out Hb3.out _
  ·skip
   go_enter Tryz.func159, Tryz.ntmps159
   go_wp2_with fail
   refine wp_region_anyX (by kernel_rfl) ?_
   refine any_val (i := 1) (v := ?_) (some 7) #[false, true, false, false, false, false, false, false, false, false, false, false, false, false, false, false, false, false, false] rfl rfl rfl (by kernel_rfl) (by kernel_rfl) (by kernel_rfl) (fun _ _ _ h => h) (Or.inl ⟨by rfl, ?_⟩) ?_
   rotate_left
   ·intro w
    go_simp
    (first | done | exact rfl)
   simp only [Act.put, List.setIfInBounds_toArray, List.set_cons_zero, List.set_cons_succ]
   refine wpAny_ready (rs := [0]) (by kernel_rfl) (by simp) (AllReady.cons rfl (fun K hK => ?_) AllReady.nil)
   go_simp
   refine hK _ _ ?_
   clear hK K
   refine wpAny_ready (rs := [2]) (by kernel_rfl) (by simp) (AllReady.cons rfl (fun K hK => ?_) AllReady.nil)
   go_simp
   refine Hbr.out.mono ?_
   rintro e w1 ⟨rfl, hb1, hg1⟩
   obtain ⟨hx1, hc1⟩ := Hbox.out w1 hg1
   have Hx1 := Lib.hid hx1
   have Hb1 := Lib.hid hb1
   have c7 := hb1.at.c7
   simp only [Nat.zero_add] at c7
   clear hb1 hg1 hx1
   refine hK _ _ ?_
   clear hK K
   refine any_val (i := 3) (v := ?_) (some 9) #[true, true, true, true, false, false, false, false, false, false, false, false, false, false, false, false, false, false, false] rfl rfl rfl (by kernel_rfl) (by kernel_rfl) (by kernel_rfl) (fun _ _ _ h => h) (Or.inl ⟨by rfl, ?_⟩) ?_
   rotate_left
   ·intro w
    go_simp
    (first | done | exact rfl)
   simp only [Act.put, List.setIfInBounds_toArray, List.set_cons_zero, List.set_cons_succ]
   refine any_val (i := 4) (v := ?_) (some 10) #[true, true, true, true, true, false, false, false, false, false, false, false, false, false, false, false, false, false, false] rfl rfl rfl (by kernel_rfl) (by kernel_rfl) (by kernel_rfl) (fun _ _ _ h => h) (Or.inl ⟨by rfl, ?_⟩) ?_
   rotate_left
   ·intro w
    go_simp
    (first | done | exact rfl)
   simp only [Act.put, List.setIfInBounds_toArray, List.set_cons_zero, List.set_cons_succ]
   refine any_val (i := 5) (v := ?_) (some 11) #[true, true, true, true, true, true, false, false, false, false, false, false, false, false, false, false, false, false, false] rfl rfl rfl (by kernel_rfl) (by kernel_rfl) (by kernel_rfl) (fun _ _ _ h => h) (Or.inl ⟨by rfl, ?_⟩) ?_
   rotate_left
   ·intro w
    go_simp
    (first | done | exact rfl)
   simp only [Act.put, List.setIfInBounds_toArray, List.set_cons_zero, List.set_cons_succ]
   refine any_val (i := 6) (v := ?_) (some 12) #[true, true, true, true, true, true, true, false, false, false, false, false, false, false, false, false, false, false, false] rfl rfl rfl (by kernel_rfl) (by kernel_rfl) (by kernel_rfl) (fun _ _ _ h => h) (Or.inl ⟨by rfl, ?_⟩) ?_
   rotate_left
   ·intro w
    go_simp
    (first | done | exact rfl)
   simp only [Act.put, List.setIfInBounds_toArray, List.set_cons_zero, List.set_cons_succ]
   refine wpAny_ready (rs := [7]) (by kernel_rfl) (by simp) (AllReady.cons rfl (fun K hK => ?_) AllReady.nil)
   go_simp
   refine hK _ _ ?_
   clear hK K
   refine wpAny_ready (rs := [8]) (by kernel_rfl) (by simp) (AllReady.cons rfl (fun K hK => ?_) AllReady.nil)
   go_simp
   refine (Htur.out _ Hx1.out).mono ?_
   rintro e w2 ⟨v2, rfl, hs2, hx2⟩
   have hsl := hs2.any
   obtain ⟨Av, capv, e2⟩ := hsl.len
   rw [List.length_map] at e2
   subst e2
   have Hx2 := Lib.hid (Hx1.out.trans hx2)
   have Hb2 := Lib.hid (Hb1.out.ext hx2)
   have hc2 := hx2.cell hc1
   have Hsl := Lib.hid hsl
   clear hs2 hsl hx2 c7 hc1
   refine hK _ _ ?_
   clear hK K
   refine wpAny_ready (rs := [9]) (by kernel_rfl) (by simp) (AllReady.cons rfl (fun K hK => ?_) AllReady.nil)
   go_simp
   refine (Hdif.out _ _ Hsl.out).mono ?_
   rintro e w3 ⟨rfl, hx3⟩
   have Hx3 := Lib.hid (Hx2.out.trans hx3)
   have Hb3 := Lib.hid (Hb2.out.ext hx3)
   have hc3 := hx3.cell hc2
   obtain ⟨b0, b1, b2, b3, b4, b5, b6, b7, b8, b9⟩ := Hb3.out.at
   simp only [Nat.zero_add] at b0 b1 b2 b3 b4 b5 b6 b7 b8 b9
   clear hx3 hc2
   refine hK _ _ ?_
   clear hK K
   refine any_val (i := 10) (v := ?_) (some 16) #[true, true, true, true, true, true, true, true, true, true, true, false, false, false, false, false, false, false, false] rfl rfl rfl (by kernel_rfl) (by kernel_rfl) (by kernel_rfl) (fun _ _ _ h => h) (Or.inl ⟨by rfl, ?_⟩) ?_
   rotate_left
   ·intro w
    go_simp
    (first | done | exact rfl)
   simp only [Act.put, List.setIfInBounds_toArray, List.set_cons_zero, List.set_cons_succ]
   refine any_val (i := 11) (v := ?_) (some 17) #[true, true, true, true, true, true, true, true, true, true, true, true, false, false, false, false, false, false, false] rfl rfl rfl (by kernel_rfl) (by kernel_rfl) (by kernel_rfl) (fun _ _ _ h => h) (Or.inl ⟨by rfl, ?_⟩) ?_
   rotate_left
   ·intro w
    go_simp
    (first | done | exact rfl)
   simp only [Act.put, List.setIfInBounds_toArray, List.set_cons_zero, List.set_cons_succ]
   refine any_val (i := 13) (v := ?_) (some 19) #[true, true, true, true, true, true, true, true, true, true, true, true, false, true, false, false, false, false, false] rfl rfl rfl (by kernel_rfl) (by kernel_rfl) (by kernel_rfl) (fun _ _ _ h => h) (Or.inl ⟨by rfl, ?_⟩) ?_
   rotate_left
   ·intro w
    go_simp
    (first | done | exact rfl)
   simp only [Act.put, List.setIfInBounds_toArray, List.set_cons_zero, List.set_cons_succ]
   refine any_val (i := 14) (v := ?_) (some 20) #[true, true, true, true, true, true, true, true, true, true, true, true, false, true, true, false, false, false, false] rfl rfl rfl (by kernel_rfl) (by kernel_rfl) (by kernel_rfl) (fun _ _ _ h => h) (Or.inl ⟨by rfl, ?_⟩) ?_
   rotate_left
   ·intro w
    go_simp
    (first | done | exact rfl)
   simp only [Act.put, List.setIfInBounds_toArray, List.set_cons_zero, List.set_cons_succ]
   refine wpAny_ready (rs := [12, 15]) (by kernel_rfl) (by simp) (AllReady.cons rfl (fun K hK => ?_) (AllReady.cons rfl (fun K hK => ?_) AllReady.nil))
   ·go_simp
    refine hK _ _ ?_
    clear hK K
    refine wpAny_ready (rs := [15]) (by kernel_rfl) (by simp) (AllReady.cons rfl (fun K hK => ?_) AllReady.nil)
    go_simp
    refine hK _ _ ?_
    clear hK K
    refine wpAny_ready (rs := [16]) (by kernel_rfl) (by simp) (AllReady.cons rfl (fun K hK => ?_) AllReady.nil)
    go_simp
    refine (Hobj.out _ Hx3.out).mono ?_
    rintro e w4 ⟨rfl, hx4⟩
    have Hx4 := Lib.hid (Hx3.out.trans hx4)
    have Hb4 := Lib.hid (Hb3.out.ext hx4)
    clear hx4 b0 b1 b2 b3 b4 b5 b6 b7 b8 b9
    refine hK _ _ ?_
    clear hK K
    refine any_val (i := 17) (v := ?_) (some 23) #[true, true, true, true, true, true, true, true, true, true, true, true, true, true, true, true, true, true, false] rfl rfl rfl (by kernel_rfl) (by kernel_rfl) (by kernel_rfl) (fun _ _ _ h => h) (Or.inl ⟨by rfl, ?_⟩) ?_
    rotate_left
    ·intro w
     go_simp
     (first | done | exact rfl)
    simp only [Act.put, List.setIfInBounds_toArray, List.set_cons_zero, List.set_cons_succ]
    refine any_val (i := 18) (v := ?_) (some 5) #[true, true, true, true, true, true, true, true, true, true, true, true, true, true, true, true, true, true, true] rfl rfl rfl (by kernel_rfl) (by kernel_rfl) (by kernel_rfl) (fun _ _ _ h => h) (Or.inl ⟨by rfl, ?_⟩) ?_
    rotate_left
    ·intro w
     go_simp
     (first | done | exact rfl)
    simp only [Act.put, List.setIfInBounds_toArray, List.set_cons_zero, List.set_cons_succ]
    refine wpAny_done (by kernel_rfl) ?_ _
    have f6 := heap_frozen Hb4.out 6
    have f7 := heap_frozen Hb4.out 7
    have f8 := heap_frozen Hb4.out 8
    have f9 := heap_frozen Hb4.out 9
    obtain ⟨_, _, _, _, _, _, d6, d7, d8, d9⟩ := Hb4.out.at
    simp only [Nat.zero_add] at d6 d7 d8 d9
    go_wp2_with fail
    go_ret
    exact Hfin.out _ Hx4.out Hb4.out _
   ·go_simp
    refine hK _ _ ?_
    clear hK K
    refine wpAny_ready (rs := [12]) (by kernel_rfl) (by simp) (AllReady.cons rfl (fun K hK => ?_) AllReady.nil)
    go_simp
    refine hK _ _ ?_
    clear hK K
    refine wpAny_ready (rs := [16]) (by kernel_rfl) (by simp) (AllReady.cons rfl (fun K hK => ?_) AllReady.nil)
    go_simp
    refine (Hobj.out _ Hx3.out).mono ?_
    rintro e w4 ⟨rfl, hx4⟩
    have Hx4 := Lib.hid (Hx3.out.trans hx4)
    have Hb4 := Lib.hid (Hb3.out.ext hx4)
    clear hx4 b0 b1 b2 b3 b4 b5 b6 b7 b8 b9
    refine hK _ _ ?_
    clear hK K
    refine any_val (i := 17) (v := ?_) (some 23) #[true, true, true, true, true, true, true, true, true, true, true, true, true, true, true, true, true, true, false] rfl rfl rfl (by kernel_rfl) (by kernel_rfl) (by kernel_rfl) (fun _ _ _ h => h) (Or.inl ⟨by rfl, ?_⟩) ?_
    rotate_left
    ·intro w
     go_simp
     (first | done | exact rfl)
    simp only [Act.put, List.setIfInBounds_toArray, List.set_cons_zero, List.set_cons_succ]
    refine any_val (i := 18) (v := ?_) (some 5) #[true, true, true, true, true, true, true, true, true, true, true, true, true, true, true, true, true, true, true] rfl rfl rfl (by kernel_rfl) (by kernel_rfl) (by kernel_rfl) (fun _ _ _ h => h) (Or.inl ⟨by rfl, ?_⟩) ?_
    rotate_left
    ·intro w
     go_simp
     (first | done | exact rfl)
    simp only [Act.put, List.setIfInBounds_toArray, List.set_cons_zero, List.set_cons_succ]
    refine wpAny_done (by kernel_rfl) ?_ _
    have f6 := heap_frozen Hb4.out 6
    have f7 := heap_frozen Hb4.out 7
    have f8 := heap_frozen Hb4.out 8
    have f9 := heap_frozen Hb4.out 9
    obtain ⟨_, _, _, _, _, _, d6, d7, d8, d9⟩ := Hb4.out.at
    simp only [Nat.zero_add] at d6 d7 d8 d9
    go_wp2_with fail
    go_ret
    exact Hfin.out _ Hx4.out Hb4.out _
end Go.Proofs.YtldnjnnhfeobdaaGreatDoor
/- Contract: the table of the rules. No condition. -/
namespace Go.Proofs.YtldnjnnhfeobdaaGreatDoor
open Go.RowKit Go.Shelf
def fn (n : Nat) : Value := .func (.func n) #[] #[]
def rulesV : Value := .agg #[.nilFunc, fn 155, fn 155, fn 156, fn 155, fn 155, fn 155, fn 155, fn 155, fn 157, fn 158, fn 157, fn 159, fn 160]
set_option maxRecDepth 100000 in
set_option maxHeartbeats 1000000 in
theorem rules_any (w : World) : Calls Tryz.prog 116 #[] w (Ret w rulesV) := by
 go_enter Tryz.func116, Tryz.ntmps116
 go_wp2_with fail
 exact bodyPost_ret (v := rulesV) (by simp [results, Tryz.results116, go_sem, rulesV, fn]) rfl ⟨rfl, ((Ext.refl _).alloc _)⟩
end Go.Proofs.YtldnjnnhfeobdaaGreatDoor
/- Plain theory: classes by refinement over an abstract graph. No program. No condition. -/
namespace Go.Proofs.YtldnjnnhfeobdaaGreatDoor
/-- the least k below i that stands for itself and has p, or i -/
def pickL (c : List Nat) (p : Nat → Bool) (i : Nat) : Nat := ((List.range i).find? fun k => c.getD k 0 == k && p k).getD i
def buildL (q : Nat → Nat → Bool) : Nat → List Nat
 | 0 => []
 | n + 1 => buildL q n ++ [pickL (buildL q n) (q n) n]
theorem buildL_length (q : Nat → Nat → Bool) (n : Nat) : (buildL q n).length = n := by
 induction n with
 | zero => rfl
 | succ n ih => simp [buildL, ih]
theorem buildL_take (q : Nat → Nat → Bool) (n i : Nat) (h : i ≤ n) : (buildL q n).take i = buildL q i := by
  induction n with
  | zero => obtain rfl : i = 0 := by omega
            rfl
  | succ n ih =>
    by_cases e : i = n + 1
    · subst e; rw [List.take_of_length_le (by rw [buildL_length]; omega)]
    · rw [buildL, List.take_append_of_le_length (by rw [buildL_length]; omega)]
      exact ih (by omega)
theorem buildL_getD (q : Nat → Nat → Bool) (n i : Nat) (h : i < n) : (buildL q n).getD i 0 = pickL (buildL q i) (q i) i := by
 have h1 := buildL_take q n (i + 1) h
 have h2 : ((buildL q n).take (i + 1)).getD i 0 = (buildL q n).getD i 0 := by
  simp only [List.getD_eq_getElem?_getD]
  rw [List.getElem?_take_of_lt (by omega)]
 rw [← h2, h1, buildL]
 simp only [List.getD_eq_getElem?_getD]
 rw [List.getElem?_append_right (by rw [buildL_length]; omega), buildL_length]
 simp
theorem buildL_getD_lt (q : Nat → Nat → Bool) (n m i : Nat) (h : i < m) (hm : m ≤ n) : (buildL q m).getD i 0 = (buildL q n).getD i 0 := by
 rw [buildL_getD q m i h, buildL_getD q n i (by omega)]
/-- an equivalence on the numbers below n -/
structure EqOn (n : Nat) (q : Nat → Nat → Bool) : Prop where
 refl : ∀ i, i < n → q i i = true
 symm : ∀ i j, i < n → j < n → q i j = true → q j i = true
 trans : ∀ i j k, i < n → j < n → k < n → q i j = true → q j k = true → q i k = true
theorem EqOn.le {n m : Nat} {q : Nat → Nat → Bool} (h : EqOn n q) (hm : m ≤ n) : EqOn m q :=
 ⟨fun i hi => h.refl i (by omega), fun i j hi hj => h.symm i j (by omega) (by omega), fun i j k hi hj hk => h.trans i j k (by omega) (by omega) (by omega)⟩
theorem pickL_find {c : List Nat} {p : Nat → Bool} {i k : Nat} (hk : k < i) (h1 : c.getD k 0 = k) (h2 : p k = true) (h3 : ∀ j, j < k → ¬ (c.getD j 0 = j ∧ p j = true)) : pickL c p i = k := by
 unfold pickL
 have : (List.range i).find? (fun k => c.getD k 0 == k && p k) = some k := by
  rw [List.find?_eq_some_iff_getElem]
  refine ⟨by simp only [h1, h2]; simp, k, by simpa using hk, by simp, fun j hj => ?_⟩
  have := h3 j hj
  simp only [List.getElem_range, Bool.not_eq_true', Bool.and_eq_false_iff, beq_eq_false_iff_ne, ne_eq]
  by_cases hc : c.getD j 0 = j
  ·right; exact Bool.eq_false_iff.2 fun hp => this ⟨hc, hp⟩
  ·left; exact hc
 rw [this]; rfl
theorem pickL_none {c : List Nat} {p : Nat → Bool} {i : Nat} (h : ∀ j, j < i → ¬ (c.getD j 0 = j ∧ p j = true)) : pickL c p i = i := by
 unfold pickL
 have : (List.range i).find? (fun k => c.getD k 0 == k && p k) = none := by
  rw [List.find?_eq_none]
  intro j hj
  have := h j (by simpa using hj)
  simpa using this
 rw [this]; rfl
theorem least_exists {p : Nat → Prop} [DecidablePred p] : ∀ n, p n → ∃ m, m ≤ n ∧ p m ∧ ∀ j, j < m → ¬ p j := by
 intro n
 induction n using Nat.strongRecOn with
 | ind n ih =>
  intro h
  by_cases e : ∃ j, j < n ∧ p j
  ·obtain ⟨j, hj, hp⟩ := e
   obtain ⟨m, h1, h2, h3⟩ := ih j hj hp
   exact ⟨m, by omega, h2, h3⟩
  ·exact ⟨n, Nat.le_refl _, h, fun j hj hp => e ⟨j, hj, hp⟩⟩
/-- what stands at i is the least that is the same -/
theorem buildL_least {n : Nat} {q : Nat → Nat → Bool} (hq : EqOn n q) : ∀ i, i < n → (buildL q n).getD i 0 ≤ i ∧ q i ((buildL q n).getD i 0) = true ∧ ∀ j, j < n → q i j = true → (buildL q n).getD i 0 ≤ j := by
 intro i
 induction i using Nat.strongRecOn with
 | ind i ih =>
  intro hi
  obtain ⟨m, hm, hp, hl⟩ := least_exists (p := fun j => q i j = true) i (hq.refl i hi)
  have key : (buildL q n).getD i 0 = m := by
   rw [buildL_getD q n i hi]
   by_cases e : m = i
   ·subst e
    exact pickL_none fun j hj hc => hl j hj hc.2
   ·have hmi : m < i := by omega
    refine pickL_find hmi ?_ hp fun j hj hc => hl j hj hc.2
    rw [buildL_getD_lt q n i m hmi (by omega)]
    obtain ⟨h1, h2, h3⟩ := ih m hmi (by omega)
    have h4 : q i ((buildL q n).getD m 0) = true := hq.trans i m _ hi (by omega) (by omega) hp h2
    have : ¬ (buildL q n).getD m 0 < m := fun hlt => hl _ hlt h4
    omega
  rw [key]
  exact ⟨hm, hp, fun j hj hqj => by
   by_cases hlt : j < m
   ·exact absurd hqj (hl j hlt)
   ·omega⟩
theorem buildL_iff {n : Nat} {q : Nat → Nat → Bool} (hq : EqOn n q) {i j : Nat} (hi : i < n) (hj : j < n) : (buildL q n).getD i 0 = (buildL q n).getD j 0 ↔ q i j = true := by
 obtain ⟨a1, a2, a3⟩ := buildL_least hq i hi
 obtain ⟨b1, b2, b3⟩ := buildL_least hq j hj
 constructor
 ·intro h
  rw [h] at a2
  exact hq.trans i _ j hi (by omega) hj a2 (hq.symm _ _ hj (by omega) b2)
 ·intro h
  have h1 := a3 _ (by omega) (hq.trans i j _ hi hj (by omega) h b2)
  have h2 := b3 _ (by omega) (hq.trans j i _ hj hi (by omega) (hq.symm _ _ hi hj h) a2)
  omega
/-! ### Refinement -/
/-- each stands for itself, or for a lesser one that does -/
structure Rep (n : Nat) (c : List Nat) : Prop where
 len : c.length = n
 le : ∀ i, i < n → c.getD i 0 ≤ i
 idem : ∀ i, i < n → c.getD (c.getD i 0) 0 = c.getD i 0
theorem buildL_rep {n : Nat} {q : Nat → Nat → Bool} (hq : EqOn n q) : Rep n (buildL q n) :=
 ⟨buildL_length q n, fun i hi => (buildL_least hq i hi).1, fun i hi => by
  obtain ⟨a1, a2, a3⟩ := buildL_least hq i hi
  exact ((buildL_iff hq hi (by omega)).2 a2).symm⟩
def stepQ (rf : Nat → List Nat) (c : List Nat) (i k : Nat) : Bool := c.getD k 0 == c.getD i 0 && decide ((rf i).map (c.getD · 0) = (rf k).map (c.getD · 0))
theorem stepQ_iff {rf : Nat → List Nat} {c : List Nat} {i k : Nat} : stepQ rf c i k = true ↔ c.getD i 0 = c.getD k 0 ∧ (rf i).map (c.getD · 0) = (rf k).map (c.getD · 0) := by
 unfold stepQ
 simp only [Bool.and_eq_true, beq_iff_eq, decide_eq_true_eq]
 exact ⟨fun h => ⟨h.1.symm, h.2⟩, fun h => ⟨h.1.symm, h.2⟩⟩
theorem stepQ_eqOn (rf : Nat → List Nat) (c : List Nat) (n : Nat) : EqOn n (stepQ rf c) :=
  ⟨fun i _ => stepQ_iff.2 ⟨rfl, rfl⟩, fun i j _ _ h => stepQ_iff.2 ⟨(stepQ_iff.1 h).1.symm, (stepQ_iff.1 h).2.symm⟩,
   fun i j k _ _ _ h1 h2 => stepQ_iff.2 ⟨(stepQ_iff.1 h1).1.trans (stepQ_iff.1 h2).1, (stepQ_iff.1 h1).2.trans (stepQ_iff.1 h2).2⟩⟩
def stepL (rf : Nat → List Nat) (n : Nat) (c : List Nat) : List Nat := buildL (stepQ rf c) n
/-- how many do not stand for themselves -/
def rankL (n : Nat) (c : List Nat) : Nat := (List.range n).countP fun i => c.getD i 0 != i
theorem countP_lt_of {α : Type} {p q : α → Bool} : ∀ {l : List α}, (∀ x ∈ l, p x = true → q x = true) → (∃ x ∈ l, q x = true ∧ p x = false) → l.countP p < l.countP q
 | [], _, h => by obtain ⟨x, hx, _⟩ := h; simp at hx
 | a :: l, h, ⟨x, hx, hq, hp⟩ => by
  have hmono : l.countP p ≤ l.countP q := List.countP_mono_left fun y hy => h y (by simp [hy])
  rcases List.mem_cons.1 hx with rfl | hx
  ·rw [List.countP_cons_of_neg (by simp [hp]), List.countP_cons_of_pos hq]; omega
  ·have := countP_lt_of (l := l) (fun y hy => h y (by simp [hy])) ⟨x, hx, hq, hp⟩
   have ha := h a (by simp)
   rw [List.countP_cons, List.countP_cons]
   cases h1 : p a
   ·simp; omega
   ·rw [ha h1]; simp; omega
theorem step_rank {rf : Nat → List Nat} {n : Nat} {c : List Nat} (hc : Rep n c) (hne : stepL rf n c ≠ c) : rankL n (stepL rf n c) < rankL n c := by
 have hq := stepQ_eqOn rf c n
 have hr := buildL_rep hq
 have hl : (stepL rf n c).length = n := buildL_length _ _
 have hex : ∃ i, i < n ∧ (stepL rf n c).getD i 0 ≠ c.getD i 0 := by
  refine Classical.byContradiction fun h => hne ?_
  refine List.ext_getElem (by rw [hl, hc.len]) fun i h1 h2 => ?_
  have h3 : ¬ ((stepL rf n c).getD i 0 ≠ c.getD i 0) := fun h4 => h ⟨i, by omega, h4⟩
  simp only [List.getD_eq_getElem?_getD, List.getElem?_eq_getElem h1, List.getElem?_eq_getElem h2, Option.getD_some] at h3
  exact Classical.not_not.1 h3
 unfold rankL
 refine countP_lt_of ?_ ?_
 ·intro i hi h
  have hi : i < n := by simpa using hi
  simp only [bne_iff_ne, ne_eq] at h ⊢
  intro h2
  apply h
  obtain ⟨a1, a2, a3⟩ := buildL_least hq i hi
  change (buildL (stepQ rf c) n).getD i 0 = i
  have h4 := (stepQ_iff.1 a2).1
  have h5 := hc.le ((buildL (stepQ rf c) n).getD i 0) (by omega)
  omega
 ·obtain ⟨i, hi, hd⟩ := hex
  obtain ⟨a1, a2, a3⟩ := buildL_least hq i hi
  refine ⟨(stepL rf n c).getD i 0, ?_, ?_, ?_⟩
  ·have : (stepL rf n c).getD i 0 ≤ i := a1
   exact List.mem_range.2 (by omega)
  ·simp only [bne_iff_ne, ne_eq]
   intro h
   apply hd
   have h4 := (stepQ_iff.1 a2).1
   rw [h4]
   exact h.symm
  ·have := hr.idem i hi
   have h2 : (stepL rf n c).getD ((stepL rf n c).getD i 0) 0 = (stepL rf n c).getD i 0 := this
   simpa using h2
def iterL (rf : Nat → List Nat) (n : Nat) : Nat → List Nat → List Nat
 | 0, c => c
 | f + 1, c => if stepL rf n c = c then c else iterL rf n f (stepL rf n c)
theorem rankL_le (n : Nat) (c : List Nat) : rankL n c ≤ n := by
 unfold rankL
 have := List.countP_le_length (p := fun i => c.getD i 0 != i) (l := List.range n)
 simpa using this
theorem iterL_stop {rf : Nat → List Nat} {n f : Nat} {c : List Nat} (h : stepL rf n c = c) : iterL rf n f c = c := by
 cases f with
 | zero => rfl
 | succ f => simp [iterL, h]
theorem iterL_go {rf : Nat → List Nat} {n f : Nat} {c : List Nat} (h : stepL rf n c ≠ c) : iterL rf n (f + 1) c = iterL rf n f (stepL rf n c) := by
 simp [iterL, h]
theorem iterL_spec {rf : Nat → List Nat} {n : Nat} (P : List Nat → Prop) (hstep : ∀ c, Rep n c → P c → P (stepL rf n c)) : ∀ f c, Rep n c → P c → rankL n c ≤ f → Rep n (iterL rf n f c) ∧ P (iterL rf n f c) ∧ stepL rf n (iterL rf n f c) = iterL rf n f c := by
 intro f
 induction f with
 | zero =>
  intro c hc hp h
  refine ⟨hc, hp, Classical.byContradiction fun hne => ?_⟩
  have := step_rank hc hne
  omega
 | succ f ih =>
  intro c hc hp h
  by_cases he : stepL rf n c = c
  ·rw [iterL_stop he]; exact ⟨hc, hp, he⟩
  ·rw [iterL_go he]
   have := step_rank hc he
   exact ih _ (buildL_rep (stepQ_eqOn rf c n)) (hstep c hc hp) (by omega)
/-- for each the least one that is the same -/
def classesN (ag : Nat → Nat → Bool) (rf : Nat → List Nat) (n : Nat) : List Nat := iterL rf n n (buildL ag n)
/-- place by place -/
inductive All2 (R : Nat → Nat → Prop) : List Nat → List Nat → Prop
 | nil : All2 R [] []
 | cons {x y : Nat} {xs ys : List Nat} : R x y → All2 R xs ys → All2 R (x :: xs) (y :: ys)
/-- pairs that show that they are the same -/
structure Bisim (n : Nat) (ag : Nat → Nat → Bool) (rf : Nat → List Nat) (R : Nat → Nat → Prop) : Prop where
 ag : ∀ i j, i < n → j < n → R i j → ag i j = true
 rf : ∀ i j, i < n → j < n → R i j → All2 R (rf i) (rf j)
structure AbsGraph (n : Nat) (ag : Nat → Nat → Bool) (rf : Nat → List Nat) : Prop where
 eq : EqOn n ag
 rng : ∀ i, i < n → ∀ r ∈ rf i, r < n
 len : ∀ i j, i < n → j < n → ag i j = true → (rf i).length = (rf j).length
theorem forall2_map_eq {R : Nat → Nat → Prop} {f : Nat → Nat} {n : Nat} : ∀ {xs ys : List Nat}, All2 R xs ys → (∀ r ∈ xs, r < n) → (∀ r ∈ ys, r < n) → (∀ i j, i < n → j < n → R i j → f i = f j) → xs.map f = ys.map f
 | _, _, .nil, _, _, _ => rfl
 | x :: xs, y :: ys, .cons h t, hx, hy, hf => by
  rw [List.map_cons, List.map_cons, hf x y (hx x (by simp)) (hy y (by simp)) h, forall2_map_eq t (fun r hr => hx r (by simp [hr])) (fun r hr => hy r (by simp [hr])) hf]
section
variable {n : Nat} {ag : Nat → Nat → Bool} {rf : Nat → List Nat}
theorem classesN_facts (G : AbsGraph n ag rf) :
  Rep n (classesN ag rf n) ∧ (∀ i j, i < n → j < n → (classesN ag rf n).getD i 0 = (classesN ag rf n).getD j 0 → ag i j = true) ∧
   (∀ R, Bisim n ag rf R → ∀ i j, i < n → j < n → R i j → (classesN ag rf n).getD i 0 = (classesN ag rf n).getD j 0) ∧
   stepL rf n (classesN ag rf n) = classesN ag rf n := by
 have := iterL_spec (rf := rf) (n := n) (fun c => (∀ i j, i < n → j < n → c.getD i 0 = c.getD j 0 → ag i j = true) ∧ (∀ R, Bisim n ag rf R → ∀ i j, i < n → j < n → R i j → c.getD i 0 = c.getD j 0)) (by
  rintro c hc ⟨h1, h2⟩
  have hq := stepQ_eqOn rf c n
  refine ⟨fun i j hi hj h => ?_, fun R hR i j hi hj hij => ?_⟩
  ·exact h1 i j hi hj (stepQ_iff.1 ((buildL_iff hq hi hj).1 h)).1
  ·refine (buildL_iff hq hi hj).2 (stepQ_iff.2 ⟨h2 R hR i j hi hj hij, ?_⟩)
   exact forall2_map_eq (hR.rf i j hi hj hij) (G.rng i hi) (G.rng j hj) (fun i j hi hj h => h2 R hR i j hi hj h)) n (buildL ag n) (buildL_rep G.eq)
  ⟨fun i j hi hj h => (buildL_iff G.eq hi hj).1 h, fun R hR i j hi hj h => (buildL_iff G.eq hi hj).2 (hR.ag i j hi hj h)⟩ (rankL_le _ _)
 exact ⟨this.1, this.2.1.1, this.2.1.2, this.2.2⟩
/-! ### Ways -/
/-- the way tells i and j apart -/
def tellsN (ag : Nat → Nat → Bool) (rf : Nat → List Nat) : Nat → Nat → List Nat → Bool
 | i, j, [] => !ag i j
 | i, j, k :: w => ag i j && (decide (k < (rf i).length) && tellsN ag rf ((rf i).getD k 0) ((rf j).getD k 0) w)
theorem getD_mem {xs : List Nat} {k : Nat} (h : k < xs.length) : xs.getD k 0 ∈ xs := by
 rw [List.getD_eq_getElem?_getD, List.getElem?_eq_getElem h]; exact List.getElem_mem h
end
end Go.Proofs.YtldnjnnhfeobdaaGreatDoor
/- Plain theory: the search for the least way that tells two types apart. No program. No condition. -/
namespace Go.Proofs.YtldnjnnhfeobdaaGreatDoor
abbrev Spot := (Nat × Nat) × List Nat
def kidsN (rf : Nat → List Nat) (p : Nat × Nat) : List (Nat × Nat) := (rf p.1).zip (rf p.2)
def pushN (way : List Nat) : Nat → List (Nat × Nat) → List (Nat × Nat) → List Spot → List (Nat × Nat) × List Spot
 | _, [], s, o => (s, o)
 | k, p :: ps, s, o => if p ∈ s then pushN way (k + 1) ps s o else pushN way (k + 1) ps (s ++ [p]) (o ++ [(p, way ++ [k])])
def apartN (ag : Nat → Nat → Bool) (rf : Nat → List Nat) : Nat → List (Nat × Nat) → List Spot → Option (List Nat)
 | 0, _, _ => none
 | f + 1, _, [] => none
 | f + 1, s, x :: o => if ag x.1.1 x.1.2 then apartN ag rf f (pushN x.2 0 (kidsN rf x.1) s o).1 (pushN x.2 0 (kidsN rf x.1) s o).2 else some x.2
theorem pushN_spec (way : List Nat) : ∀ ps k s o, ∃ new : List Spot, pushN way k ps s o = (s ++ new.map (·.1), o ++ new) ∧
  (∀ e ∈ new, e.1 ∉ s ∧ ∃ m, ∃ h : m < ps.length, e.1 = ps[m] ∧ e.2 = way ++ [k + m]) ∧ (∀ p ∈ ps, p ∈ s ++ new.map (·.1)) ∧ (s.Nodup → (s ++ new.map (·.1)).Nodup) := by
 intro ps
 induction ps with
 | nil => intro k s o; exact ⟨[], by simp [pushN], by simp, by simp, by simp⟩
 | cons p ps ih =>
  intro k s o
  unfold pushN
  by_cases hp : p ∈ s
  ·rw [if_pos hp]
   obtain ⟨new, h1, h2, h3, h4⟩ := ih (k + 1) s o
   refine ⟨new, h1, fun e he => ?_, fun q hq => ?_, h4⟩
   ·obtain ⟨a1, m, hm, a2, a3⟩ := h2 e he
    exact ⟨a1, m + 1, by simp; omega, by simpa using a2, by rw [a3]; congr 2; omega⟩
   ·rcases List.mem_cons.1 hq with rfl | hq
    ·simp [hp]
    ·exact h3 q hq
  ·rw [if_neg hp]
   obtain ⟨new, h1, h2, h3, h4⟩ := ih (k + 1) (s ++ [p]) (o ++ [(p, way ++ [k])])
   refine ⟨(p, way ++ [k]) :: new, by rw [h1]; simp, fun e he => ?_, fun q hq => ?_, fun hs => ?_⟩
   ·rcases List.mem_cons.1 he with rfl | he
    ·exact ⟨hp, 0, by simp, by simp, by simp⟩
    ·obtain ⟨a1, m, hm, a2, a3⟩ := h2 e he
     exact ⟨fun h => a1 (by simp [h]), m + 1, by simp; omega, by simpa using a2, by rw [a3]; congr 2; omega⟩
   ·rcases List.mem_cons.1 hq with rfl | hq
    ·simp
    ·have := h3 q hq
     simpa using this
   ·have := h4 (by rw [List.nodup_append]; exact ⟨hs, by simp, by rintro a ha b hb rfl; simp at hb; subst hb; exact hp ha⟩)
    simpa using this
/-- what the search knows -/
structure Inv (n : Nat) (ag : Nat → Nat → Bool) (rf : Nat → List Nat) (a b : Nat) (dn : List Spot) (s : List (Nat × Nat)) (o : List Spot) : Prop where
 rng : ∀ e ∈ dn ++ o, e.1.1 < n ∧ e.1.2 < n
 lead : ∀ e ∈ dn ++ o, ∀ v, tellsN ag rf a b (e.2 ++ v) = tellsN ag rf e.1.1 e.1.2 v
 past : ∀ e ∈ dn, ag e.1.1 e.1.2 = true ∧ ∀ c ∈ kidsN rf e.1, ∃ f ∈ dn ++ o, f.1 = c ∧ f.2.length ≤ e.2.length + 1
 seen : ∀ p, p ∈ s ↔ ∃ e ∈ dn ++ o, e.1 = p
 nodup : s.Nodup
 sorted : o.Pairwise fun e f => e.2.length ≤ f.2.length ∧ f.2.length ≤ e.2.length + 1
 start : ∃ e ∈ dn ++ o, e.1 = (a, b) ∧ e.2.length = 0
 ends : ∀ e ∈ dn, ∀ f ∈ o, e.2.length ≤ f.2.length
section
variable {n : Nat} {ag : Nat → Nat → Bool} {rf : Nat → List Nat} {a b : Nat} {dn : List Spot} {s : List (Nat × Nat)} {o : List Spot}
theorem kidsN_getD (rf : Nat → List Nat) (i j k : Nat) (h1 : k < (rf i).length) (h2 : k < (rf j).length) : ((rf i).getD k 0, (rf j).getD k 0) ∈ kidsN rf (i, j) := by
 unfold kidsN
 rw [List.mem_iff_getElem]
 refine ⟨k, by simp; omega, ?_⟩
 simp [List.getD_eq_getElem?_getD, List.getElem?_eq_getElem h1, List.getElem?_eq_getElem h2]
theorem Inv.find (G : AbsGraph n ag rf) (I : Inv n ag rf a b dn s o) : ∀ v e, e ∈ dn ++ o → tellsN ag rf e.1.1 e.1.2 v = true → ∃ f ∈ o, ∃ v', tellsN ag rf f.1.1 f.1.2 v' = true ∧ f.2.length + v'.length ≤ e.2.length + v.length := by
 intro v
 induction v with
 | nil =>
  intro e he ht
  rcases List.mem_append.1 he with h | h
  ·have := (I.past e h).1
   simp [tellsN, this] at ht
  ·exact ⟨e, h, [], ht, Nat.le_refl _⟩
 | cons k v ih =>
  intro e he ht
  rcases List.mem_append.1 he with h | h
  ·unfold tellsN at ht
   simp only [Bool.and_eq_true, decide_eq_true_eq] at ht
   obtain ⟨t1, t2, t3⟩ := ht
   obtain ⟨hr1, hr2⟩ := I.rng e he
   have hl := G.len _ _ hr1 hr2 t1
   obtain ⟨f, hf, hf1, hf2⟩ := (I.past e h).2 _ (kidsN_getD rf e.1.1 e.1.2 k t2 (by omega))
   obtain ⟨g, hg, v', h1, h2⟩ := ih f hf (by rw [hf1]; exact t3)
   exact ⟨g, hg, v', h1, by simp; omega⟩
  ·exact ⟨e, h, k :: v, ht, Nat.le_refl _⟩
theorem Inv.init (ha : a < n) (hb : b < n) : Inv n ag rf a b [] [(a, b)] [((a, b), [])] :=
 ⟨by simp [ha, hb], by simp, by simp, fun p => by simp [eq_comm], by simp, by simp, ⟨_, List.mem_append_right _ (List.mem_singleton.2 rfl), rfl, rfl⟩, by simp⟩
theorem Inv.step (G : AbsGraph n ag rf) {x : Spot} (I : Inv n ag rf a b dn s (x :: o)) (hx : ag x.1.1 x.1.2 = true) :
  Inv n ag rf a b (dn ++ [x]) (pushN x.2 0 (kidsN rf x.1) s o).1 (pushN x.2 0 (kidsN rf x.1) s o).2 := by
 obtain ⟨new, h1, h2, h3, h4⟩ := pushN_spec x.2 (kidsN rf x.1) 0 s o
 rw [h1]
 obtain ⟨hr1, hr2⟩ := I.rng x (by simp)
 have hl := G.len _ _ hr1 hr2 hx
 have hnew : ∀ e ∈ new, (e.1.1 < n ∧ e.1.2 < n) ∧ (∀ v, tellsN ag rf a b (e.2 ++ v) = tellsN ag rf e.1.1 e.1.2 v) ∧ e.2.length = x.2.length + 1 := by
  intro e he
  obtain ⟨_, m, hm, e1, e2⟩ := h2 e he
  have hm1 : m < (rf x.1.1).length := by simp [kidsN] at hm; omega
  have hm2 : m < (rf x.1.2).length := by simp [kidsN] at hm; omega
  have ek : e.1 = ((rf x.1.1).getD m 0, (rf x.1.2).getD m 0) := by
   rw [e1]; simp [kidsN, List.getD_eq_getElem?_getD, List.getElem?_eq_getElem hm1, List.getElem?_eq_getElem hm2]
  refine ⟨by rw [ek]; exact ⟨G.rng _ hr1 _ (getD_mem hm1), G.rng _ hr2 _ (getD_mem hm2)⟩, fun v => ?_, by rw [e2]; simp⟩
  rw [e2, List.append_assoc, I.lead x (by simp)]
  simp only [List.cons_append, List.nil_append, Nat.zero_add]
  rw [tellsN, hx, ek]
  simp [hm1]
 have hmem : ∀ e, e ∈ dn ++ [x] ++ (o ++ new) ↔ e ∈ dn ++ (x :: o) ∨ e ∈ new := by
  intro e; simp; constructor
  ·rintro (h | h | h | h) <;> simp [h]
  ·rintro ((h | h | h) | h) <;> simp [h]
 refine ⟨fun e he => ?_, fun e he => ?_, fun e he => ?_, fun p => ?_, h4 I.nodup, ?_, ?_, fun e he f hf => ?_⟩
 ·rcases (hmem e).1 he with h | h
  ·exact I.rng e h
  ·exact (hnew e h).1
 ·rcases (hmem e).1 he with h | h
  ·exact I.lead e h
  ·exact (hnew e h).2.1
 ·rcases List.mem_append.1 he with h | h
  ·refine ⟨(I.past e h).1, fun c hc => ?_⟩
   obtain ⟨f, hf, hf1, hf2⟩ := (I.past e h).2 c hc
   exact ⟨f, (hmem f).2 (.inl hf), hf1, hf2⟩
  ·obtain rfl : e = x := by simpa using h
   refine ⟨hx, fun c hc => ?_⟩
   rcases List.mem_append.1 (h3 c hc) with h | h
   ·obtain ⟨f, hf, hf1⟩ := (I.seen c).1 h
    refine ⟨f, (hmem f).2 (.inl hf), hf1, ?_⟩
    rcases List.mem_append.1 hf with h5 | h5
    ·have := I.ends f h5 e (by simp)
     omega
    ·rcases List.mem_cons.1 h5 with rfl | h5
     ·omega
     ·exact (List.rel_of_pairwise_cons I.sorted h5).2
   ·obtain ⟨f, hf, rfl⟩ := List.mem_map.1 h
    exact ⟨f, (hmem f).2 (.inr hf), rfl, by rw [(hnew f hf).2.2]; exact Nat.le_refl _⟩
 ·rw [List.mem_append]
  constructor
  ·rintro (h | h)
   ·obtain ⟨e, he, h5⟩ := (I.seen p).1 h
    exact ⟨e, (hmem e).2 (.inl he), h5⟩
   ·obtain ⟨f, hf, rfl⟩ := List.mem_map.1 h
    exact ⟨f, (hmem f).2 (.inr hf), rfl⟩
  ·rintro ⟨e, he, rfl⟩
   rcases (hmem e).1 he with h | h
   ·exact .inl ((I.seen _).2 ⟨e, h, rfl⟩)
   ·exact .inr (List.mem_map.2 ⟨e, h, rfl⟩)
 ·rw [List.pairwise_append]
  have hs := List.pairwise_cons.1 I.sorted
  refine ⟨hs.2, ?_, fun e he f hf => ?_⟩
  ·rw [List.pairwise_iff_forall_sublist]
   intro e f hef
   have he : e ∈ new := hef.subset (by simp)
   have hf : f ∈ new := hef.subset (by simp)
   rw [(hnew e he).2.2, (hnew f hf).2.2]; omega
  ·rw [(hnew f hf).2.2]
   have := hs.1 e he
   omega
 ·obtain ⟨e, he, h5⟩ := I.start
  exact ⟨e, (hmem e).2 (.inl he), h5⟩
 ·have hx1 : ∀ f ∈ o ++ new, x.2.length ≤ f.2.length := by
   intro f hf
   rcases List.mem_append.1 hf with h | h
   ·exact (List.rel_of_pairwise_cons I.sorted h).1
   ·rw [(hnew f h).2.2]; omega
  rcases List.mem_append.1 he with h | h
  ·have := I.ends e h x (by simp)
   have := hx1 f hf
   omega
  ·obtain rfl : e = x := by simpa using h
   exact hx1 f hf
theorem nodup_length_le {α : Type} [DecidableEq α] : ∀ {s l : List α}, s.Nodup → (∀ x ∈ s, x ∈ l) → s.length ≤ l.length
 | [], _, _, _ => by simp
 | x :: s, l, hs, hl => by
  have h1 := List.nodup_cons.1 hs
  have hx : x ∈ l := hl x (by simp)
  have := nodup_length_le (s := s) (l := l.erase x) h1.2 fun y hy => (List.mem_erase_of_ne (by rintro rfl; exact h1.1 hy)).2 (hl y (by simp [hy]))
  rw [List.length_erase_of_mem hx] at this
  have : 0 < l.length := List.length_pos_of_mem hx
  simp; omega
theorem pairs_le {n : Nat} {s : List (Nat × Nat)} (hs : s.Nodup) (h : ∀ p ∈ s, p.1 < n ∧ p.2 < n) : s.length ≤ n * n := by
 have := nodup_length_le (l := (List.range n).flatMap fun i => (List.range n).map fun j => (i, j)) hs fun p hp => by
  obtain ⟨h1, h2⟩ := h p hp
  simp only [List.mem_flatMap, List.mem_range, List.mem_map]
  exact ⟨p.1, h1, p.2, h2, rfl⟩
 have hl : ((List.range n).flatMap fun i => (List.range n).map fun j => (i, j)).length = n * n := by
  rw [List.length_flatMap]
  simp only [List.length_map, List.length_range]
  rw [List.map_const', List.sum_replicate_nat, List.length_range]
 omega
theorem Inv.seen_le (I : Inv n ag rf a b dn s o) : s.length ≤ n * n :=
 pairs_le I.nodup fun p hp => by obtain ⟨e, he, rfl⟩ := (I.seen p).1 hp; exact I.rng e he
/-- how many rounds are left, at most -/
def leftN (n : Nat) (s : List (Nat × Nat)) (o : List Spot) : Nat := n * n - s.length + o.length
theorem Inv.left (G : AbsGraph n ag rf) {x : Spot} (I : Inv n ag rf a b dn s (x :: o)) (hx : ag x.1.1 x.1.2 = true) :
  leftN n (pushN x.2 0 (kidsN rf x.1) s o).1 (pushN x.2 0 (kidsN rf x.1) s o).2 < leftN n s (x :: o) := by
 have h0 := (I.step G hx).seen_le
 have h1 := I.seen_le
 obtain ⟨new, e, _⟩ := pushN_spec x.2 (kidsN rf x.1) 0 s o
 rw [e] at h0 ⊢
 unfold leftN
 simp at h0 ⊢
 omega
/-- what the search finds -/
def Found (ag : Nat → Nat → Bool) (rf : Nat → List Nat) (a b : Nat) : Option (List Nat) → Prop
 | none => ∀ v, tellsN ag rf a b v = false
 | some w => tellsN ag rf a b w = true ∧ ∀ v, tellsN ag rf a b v = true → w.length ≤ v.length
theorem Inv.no (G : AbsGraph n ag rf) (I : Inv n ag rf a b dn s []) : Found ag rf a b none := by
 intro v
 cases ht : tellsN ag rf a b v with
 | false => rfl
 | true =>
  obtain ⟨e, he, h1, h2⟩ := I.start
  obtain ⟨f, hf, _⟩ := I.find G v e he (by rw [h1]; exact ht)
  simp at hf
end
end Go.Proofs.YtldnjnnhfeobdaaGreatDoor
/- Plain functions on graphs: references, what is fine. No program. No condition. -/
namespace Go.Proofs.YtldnjnnhfeobdaaGreatDoor
def ty0 : Ty := ⟨0, 0, 0, false, ByteArray.empty, ByteArray.empty, 0, [], [], []⟩
def getT (g : Graph) (i : Nat) : Ty := g.getD i ty0
def refsM (m : Method) : List Int := m.args ++ if 0 ≤ m.result then [m.result] else []
def refsS (t : Ty) : List Int := if hasSuperB t.kind then [t.super] else []
def refsL (t : Ty) : List Int := refsS t ++ (t.parts.map Part.type ++ t.methods.flatMap refsM)
def refsN (g : Graph) (i : Nat) : List Nat := (refsL (getT g i)).map Int.toNat
theorem getT_lt {g : Graph} {i : Nat} (h : i < g.length) : getT g i = g[i] := by simp [getT, List.getD_eq_getElem?_getD, List.getElem?_eq_getElem h]
theorem getT_mem {g : Graph} {i : Nat} (h : i < g.length) : getT g i ∈ g := by rw [getT_lt h]; exact List.getElem_mem h
/-- what is right refers to types of the graph, and is short -/
structure Fine (n : Nat) (t : Ty) : Prop where
 super : hasSuperB t.kind = true → 0 ≤ t.super ∧ t.super < n
 part : ∀ p ∈ t.parts, 0 ≤ p.type ∧ p.type < n
 arg : ∀ m ∈ t.methods, ∀ a ∈ m.args, 0 ≤ a ∧ a < n
 result : ∀ m ∈ t.methods, m.result = -1 ∨ 0 ≤ m.result ∧ m.result < n
 parts : t.parts.length ≤ 8
 methods : t.methods.length ≤ 8
 overs : t.overs.length ≤ 8
 args : ∀ m ∈ t.methods, m.args.length ≤ 6
 raises : ∀ m ∈ t.methods, m.raises.length ≤ 6
 kind : 1 ≤ t.kind ∧ t.kind < 14
theorem Fine.refs {n : Nat} {t : Ty} (h : Fine n t) : ∀ r ∈ refsL t, 0 ≤ r ∧ r < n := by
 intro r hr
 unfold refsL refsS at hr
 rcases List.mem_append.1 hr with hr | hr
 ·cases hs : hasSuperB t.kind with
  | false => simp [hs] at hr
  | true => simp [hs] at hr; subst hr; exact h.super hs
 rcases List.mem_append.1 hr with hr | hr
 ·obtain ⟨p, hp, rfl⟩ := List.mem_map.1 hr
  exact h.part p hp
 ·obtain ⟨m, hm, hr⟩ := List.mem_flatMap.1 hr
  unfold refsM at hr
  rcases List.mem_append.1 hr with hr | hr
  ·exact h.arg m hm r hr
  ·by_cases h0 : 0 ≤ m.result
   ·simp [h0] at hr; subst hr
    rcases h.result m hm with e | e
    ·omega
    ·exact e
   ·simp [h0] at hr
theorem flatMap_le {α β : Type} (f : α → List β) (k : Nat) : ∀ l : List α, (∀ x ∈ l, (f x).length ≤ k) → (l.flatMap f).length ≤ l.length * k
 | [], _ => by simp
 | x :: l, h => by
  have h1 := h x (by simp)
  have h2 := flatMap_le f k l fun y hy => h y (by simp [hy])
  rw [List.flatMap_cons, List.length_append, List.length_cons, Nat.add_mul]
  omega
theorem Fine.refs_le {n : Nat} {t : Ty} (h : Fine n t) : (refsL t).length ≤ 65 := by
 have h1 := flatMap_le refsM 7 t.methods fun m hm => by
  have := h.args m hm
  unfold refsM
  rw [List.length_append]
  split <;> simp <;> omega
 have h2 := h.methods
 have h3 := h.parts
 have h4 : (refsS t).length ≤ 1 := by unfold refsS; split <;> simp
 unfold refsL
 rw [List.length_append, List.length_append, List.length_map]
 omega
end Go.Proofs.YtldnjnnhfeobdaaGreatDoor
/- Plain functions on graphs: references, agreement, what is right, what is well-formed. No program. No condition. -/
namespace Go.Proofs.YtldnjnnhfeobdaaGreatDoor
def partEq (p q : Part) : Bool := p.name.toList == q.name.toList
def plainEqB (s t : Ty) : Bool := decide (s.kind = t.kind) && (decide (s.low = t.low) && (decide (s.high = t.high) && ((s.branded == t.branded) && (strEq s.brand t.brand && strEq s.opaq t.opaq))))
def agreeT (s t : Ty) : Bool := plainEqB s t && (eqF partEq s.parts t.parts && (eqF sameMethodB s.methods t.methods && eqF overEq s.overs t.overs))
def agN (g : Graph) (i j : Nat) : Bool := agreeT (getT g i) (getT g j)
/-! ### agreement is an equivalence -/
theorem strEq_iff {a b : ByteArray} : strEq a b = true ↔ a = b := by
 unfold strEq
 constructor
 ·intro h; exact ba_toList_inj (by simpa using h)
 ·rintro rfl; simp
/-- a test that is true where f agrees -/
structure ByF {α : Type} (p : α → α → Bool) : Prop where
 refl : ∀ x, p x x = true
 symm : ∀ x y, p x y = true → p y x = true
 trans : ∀ x y z, p x y = true → p y z = true → p x z = true
theorem ByF.eqF {α : Type} {p : α → α → Bool} (h : ByF p) : ByF (eqF p) :=
  ⟨fun xs => by induction xs with
    | nil => rfl
    | cons x xs ih => simp [YtldnjnnhfeobdaaGreatDoor.eqF, h.refl, ih],
   fun xs => by induction xs with
    | nil => intro ys hy; cases ys <;> simp_all [YtldnjnnhfeobdaaGreatDoor.eqF]
    | cons x xs ih =>
      intro ys hy
      cases ys with
      | nil => simp [YtldnjnnhfeobdaaGreatDoor.eqF] at hy
      | cons y ys =>
        simp only [YtldnjnnhfeobdaaGreatDoor.eqF, Bool.and_eq_true] at hy ⊢
        exact ⟨h.symm _ _ hy.1, ih _ hy.2⟩,
   fun xs => by induction xs with
    | nil => intro ys zs h1 h2; cases ys <;> simp_all [YtldnjnnhfeobdaaGreatDoor.eqF]
    | cons x xs ih =>
      intro ys zs h1 h2
      cases ys with
      | nil => simp [YtldnjnnhfeobdaaGreatDoor.eqF] at h1
      | cons y ys =>
        cases zs with
        | nil => simp [YtldnjnnhfeobdaaGreatDoor.eqF] at h2
        | cons z zs =>
          simp only [YtldnjnnhfeobdaaGreatDoor.eqF, Bool.and_eq_true] at h1 h2 ⊢
          exact ⟨h.trans _ _ _ h1.1 h2.1, ih _ _ h1.2 h2.2⟩⟩
theorem byF_strEq : ByF strEq := ⟨fun x => strEq_iff.2 rfl, fun x y h => strEq_iff.2 (strEq_iff.1 h).symm, fun x y z h1 h2 => strEq_iff.2 ((strEq_iff.1 h1).trans (strEq_iff.1 h2))⟩
theorem partEq_eq (p q : Part) : partEq p q = strEq p.name q.name := rfl
theorem overEq_eq (p q : Over) : overEq p q = (strEq p.name q.name && strEq p.proc q.proc) := rfl
theorem byF_part : ByF partEq :=
 ⟨fun x => byF_strEq.refl _, fun x y h => byF_strEq.symm _ _ h, fun x y z h1 h2 => byF_strEq.trans _ _ _ h1 h2⟩
theorem byF_over : ByF overEq :=
 ⟨fun x => by simp [overEq_eq, byF_strEq.refl], fun x y h => by
  simp only [overEq_eq, Bool.and_eq_true] at h ⊢
  exact ⟨byF_strEq.symm _ _ h.1, byF_strEq.symm _ _ h.2⟩, fun x y z h1 h2 => by
  simp only [overEq_eq, Bool.and_eq_true] at h1 h2 ⊢
  exact ⟨byF_strEq.trans _ _ _ h1.1 h2.1, byF_strEq.trans _ _ _ h1.2 h2.2⟩⟩
theorem sameMethodB_iff {a b : Method} : sameMethodB a b = true ↔ a.name = b.name ∧ a.proc = b.proc ∧ a.args.length = b.args.length ∧ decide (a.result < 0) = decide (b.result < 0) ∧ eqF strEq a.raises b.raises = true := by
 simp only [sameMethodB, Bool.and_eq_true, strEq_iff, decide_eq_true_eq, beq_iff_eq]
theorem byF_method : ByF sameMethodB :=
 ⟨fun x => sameMethodB_iff.2 ⟨rfl, rfl, rfl, rfl, byF_strEq.eqF.refl _⟩, fun x y h => by
  obtain ⟨h1, h2, h3, h4, h5⟩ := sameMethodB_iff.1 h
  exact sameMethodB_iff.2 ⟨h1.symm, h2.symm, h3.symm, h4.symm, byF_strEq.eqF.symm _ _ h5⟩, fun x y z h k => by
  obtain ⟨h1, h2, h3, h4, h5⟩ := sameMethodB_iff.1 h
  obtain ⟨k1, k2, k3, k4, k5⟩ := sameMethodB_iff.1 k
  exact sameMethodB_iff.2 ⟨h1.trans k1, h2.trans k2, h3.trans k3, h4.trans k4, byF_strEq.eqF.trans _ _ _ h5 k5⟩⟩
theorem plainEqB_iff {s t : Ty} : plainEqB s t = true ↔ s.kind = t.kind ∧ s.low = t.low ∧ s.high = t.high ∧ s.branded = t.branded ∧ s.brand = t.brand ∧ s.opaq = t.opaq := by
 simp only [plainEqB, Bool.and_eq_true, strEq_iff, decide_eq_true_eq, beq_iff_eq]
theorem agreeT_iff {s t : Ty} : agreeT s t = true ↔ plainEqB s t = true ∧ eqF partEq s.parts t.parts = true ∧ eqF sameMethodB s.methods t.methods = true ∧ eqF overEq s.overs t.overs = true := by
 simp only [agreeT, Bool.and_eq_true]
theorem byF_agree : ByF agreeT :=
 ⟨fun x => agreeT_iff.2 ⟨plainEqB_iff.2 ⟨rfl, rfl, rfl, rfl, rfl, rfl⟩, byF_part.eqF.refl _, byF_method.eqF.refl _, byF_over.eqF.refl _⟩, fun x y h => by
  obtain ⟨h1, h2, h3, h4⟩ := agreeT_iff.1 h
  obtain ⟨p1, p2, p3, p4, p5, p6⟩ := plainEqB_iff.1 h1
  exact agreeT_iff.2 ⟨plainEqB_iff.2 ⟨p1.symm, p2.symm, p3.symm, p4.symm, p5.symm, p6.symm⟩, byF_part.eqF.symm _ _ h2, byF_method.eqF.symm _ _ h3, byF_over.eqF.symm _ _ h4⟩, fun x y z h k => by
  obtain ⟨h1, h2, h3, h4⟩ := agreeT_iff.1 h
  obtain ⟨k1, k2, k3, k4⟩ := agreeT_iff.1 k
  obtain ⟨p1, p2, p3, p4, p5, p6⟩ := plainEqB_iff.1 h1
  obtain ⟨q1, q2, q3, q4, q5, q6⟩ := plainEqB_iff.1 k1
  exact agreeT_iff.2 ⟨plainEqB_iff.2 ⟨p1.trans q1, p2.trans q2, p3.trans q3, p4.trans q4, p5.trans q5, p6.trans q6⟩, byF_part.eqF.trans _ _ _ h2 k2, byF_method.eqF.trans _ _ _ h3 k3, byF_over.eqF.trans _ _ _ h4 k4⟩⟩
theorem agN_eqOn (g : Graph) (n : Nat) : EqOn n (agN g) :=
 ⟨fun i _ => byF_agree.refl _, fun i j _ _ h => byF_agree.symm _ _ h, fun i j k _ _ _ h1 h2 => byF_agree.trans _ _ _ h1 h2⟩
theorem eqF_length {α : Type} {p : α → α → Bool} : ∀ {xs ys : List α}, eqF p xs ys = true → xs.length = ys.length
 | [], [], _ => rfl
 | [], y :: ys, h => by simp [eqF] at h
 | x :: xs, [], h => by simp [eqF] at h
 | x :: xs, y :: ys, h => by
  simp only [eqF, Bool.and_eq_true] at h
  simp [eqF_length h.2]
theorem refsM_length {a b : Method} (h : sameMethodB a b = true) : (refsM a).length = (refsM b).length := by
 obtain ⟨_, _, h3, h4, _⟩ := sameMethodB_iff.1 h
 have h5 : (0 ≤ a.result) ↔ (0 ≤ b.result) := by
  have : (a.result < 0) ↔ (b.result < 0) := by simpa using h4
  omega
 unfold refsM
 by_cases h6 : 0 ≤ a.result
 ·simp [h6, h5.1 h6, h3]
 ·have h7 : ¬ 0 ≤ b.result := fun h => h6 (h5.2 h)
  simp [h6, h7, h3]
theorem flatM_length : ∀ {xs ys : List Method}, eqF sameMethodB xs ys = true → (xs.flatMap refsM).length = (ys.flatMap refsM).length
 | [], [], _ => rfl
 | [], y :: ys, h => by simp [eqF] at h
 | x :: xs, [], h => by simp [eqF] at h
 | x :: xs, y :: ys, h => by
  simp only [eqF, Bool.and_eq_true] at h
  have h1 := refsM_length h.1
  have h2 := flatM_length h.2
  rw [List.flatMap_cons, List.flatMap_cons, List.length_append, List.length_append, h1, h2]
theorem refsL_length {s t : Ty} (h : agreeT s t = true) : (refsL s).length = (refsL t).length := by
 obtain ⟨h1, h2, h3, _⟩ := agreeT_iff.1 h
 obtain ⟨p1, _⟩ := plainEqB_iff.1 h1
 have e1 := eqF_length h2
 have e2 := flatM_length h3
 have e3 : (refsS s).length = (refsS t).length := by unfold refsS; rw [p1]; cases hasSuperB t.kind <;> rfl
 unfold refsL
 rw [List.length_append, List.length_append, List.length_append, List.length_append, List.length_map, List.length_map]
 omega
/-! ### what is right -/
def zeroB (t : Ty) : Bool := (decide (t.low = 0) && (decide (t.high = 0) && (!t.branded && (t.brand.toList.isEmpty && (t.opaq.toList.isEmpty && decide (t.super = 0)))))) && decide (t.parts.length + t.methods.length + t.overs.length = 0)
def rightB (g : Graph) (t : Ty) : Bool :=
 if t.kind = 3 then rangedB g t && zeroB (noRange t)
 else if t.kind = 9 ∨ t.kind = 11 then heldB g t && zeroB (noParts t)
 else if t.kind = 10 then recordedB g t && zeroB (noParts t)
 else if t.kind = 12 then objectsB g t && zeroB (noObject t)
 else if t.kind = 13 then opaqueB g t && zeroB (noOpaque t)
 else decide (1 ≤ t.kind ∧ t.kind < 14) && zeroB t
def superN (g : Graph) (i : Nat) : Nat := (getT g i).super.toNat
/-- within n steps up from a type one comes to i -/
def cycN (g : Graph) (i : Nat) : Nat → Nat → Bool
 | 0, _ => false
 | n + 1, at_ => hasSuperB (getT g at_).kind && (decide (superN g at_ = i) || cycN g i n (superN g at_))
/-- what is wrong with a graph -/
def checkG (g : Graph) : Int × Int :=
 if 400 < g.length then (400, 30) else
 match g.findIdx? fun t => !rightB g t with
 | some i => ((i : Int), 30)
 | none => match (List.range g.length).find? fun i => cycN g i g.length i with
  | some i => ((i : Int), 30)
  | none => (0, 0)
structure WF (g : Graph) : Prop where
 len : g.length ≤ 400
 right : ∀ t ∈ g, rightB g t = true
 cyc : ∀ i, i < g.length → cycN g i g.length i = false
theorem checkG_ok {g : Graph} : (checkG g).2 = 0 ↔ WF g := by
 unfold checkG
 by_cases h1 : 400 < g.length
 ·rw [if_pos h1]
  exact ⟨fun h => by simp at h, fun h => by have := h.len; omega⟩
 ·rw [if_neg h1]
  cases h2 : g.findIdx? fun t => !rightB g t with
  | some i =>
   rw [List.findIdx?_eq_some_iff_getElem] at h2
   obtain ⟨hi, h3, _⟩ := h2
   refine ⟨fun h => by simp at h, fun h => ?_⟩
   have := h.right _ (List.getElem_mem hi)
   simp [this] at h3
  | none =>
   rw [List.findIdx?_eq_none_iff] at h2
   cases h3 : (List.range g.length).find? fun i => cycN g i g.length i with
   | some i =>
    have h4 := List.find?_some h3
    have h5 := List.mem_of_find?_eq_some h3
    refine ⟨fun h => by simp at h, fun h => ?_⟩
    have := h.cyc i (by simpa using h5)
    simp [this] at h4
   | none =>
    rw [List.find?_eq_none] at h3
    exact ⟨fun _ => ⟨by omega, fun t ht => by simpa using h2 t ht, fun i hi => by simpa using h3 i (by simpa using hi)⟩, fun _ => rfl⟩
theorem checkG_err {g : Graph} : (checkG g).2 = 0 ∨ (checkG g).2 = 30 := by
 unfold checkG
 split
 ·exact .inr rfl
 ·split
  ·exact .inr rfl
  ·split
   ·exact .inr rfl
   ·exact .inl rfl
theorem zeroB_lens {t : Ty} (h : zeroB t = true) : t.parts = [] ∧ t.methods = [] ∧ t.overs = [] := by
 simp only [zeroB, Bool.and_eq_true, decide_eq_true_eq] at h
 obtain ⟨_, h⟩ := h
 exact ⟨List.eq_nil_of_length_eq_zero (by omega), List.eq_nil_of_length_eq_zero (by omega), List.eq_nil_of_length_eq_zero (by omega)⟩
theorem brandedB_parts {n : Nat} {t : Ty} (h : brandedB n t = true) : ∀ p ∈ t.parts, 0 ≤ p.type ∧ p.type < n := by
 simp only [brandedB, Bool.and_eq_true, Bool.not_eq_true', List.any_eq_false] at h
 intro p hp
 have := h.2.2 p hp
 simp only [partBad, Bool.not_eq_true', Bool.not_eq_false] at this
 exact hasB_iff.1 (by simpa using this)
theorem differentB_le {l : List ByteArray} {k : Int} (h : differentB l k = true) : (l.length : Int) ≤ k := by
 simp only [differentB, Bool.and_eq_true, decide_eq_true_eq] at h; exact h.2
theorem overB_rng {g : Graph} {i : Int} {l : List Int} (h : overB g i l = true) : 0 ≤ i ∧ i < g.length := by
 simp only [overB, Bool.and_eq_true] at h; exact hasB_iff.1 h.1
theorem right_fine {g : Graph} {t : Ty} (h : rightB g t = true) : Fine g.length t := by
 have hk13 : hasSuperB t.kind = true → t.kind = 12 ∨ t.kind = 13 := by simp [hasSuperB]
 unfold rightB at h
 split at h
 ·rename_i hk
  simp only [Bool.and_eq_true] at h
  obtain ⟨z1, z2, z3⟩ := zeroB_lens h.2
  have z1 : t.parts = [] := z1
  have z2 : t.methods = [] := z2
  have z3 : t.overs = [] := z3
  exact ⟨fun hs => by have := hk13 hs; omega, by simp [z1], by simp [z2], by simp [z2], by simp [z1], by simp [z2], by simp [z3], by simp [z2], by simp [z2], by omega⟩
 split at h
 ·rename_i hk
  simp only [Bool.and_eq_true] at h
  obtain ⟨h1, h2⟩ := h
  obtain ⟨_, z2, z3⟩ := zeroB_lens h2
  have z2 : t.methods = [] := z2
  have z3 : t.overs = [] := z3
  simp only [heldB, Bool.and_eq_true, decide_eq_true_eq] at h1
  exact ⟨fun hs => by have := hk13 hs; omega, brandedB_parts h1.1, by simp [z2], by simp [z2], by omega, by simp [z2], by simp [z3], by simp [z2], by simp [z2], by omega⟩
 split at h
 ·rename_i hk
  simp only [Bool.and_eq_true] at h
  obtain ⟨h1, h2⟩ := h
  obtain ⟨_, z2, z3⟩ := zeroB_lens h2
  have z2 : t.methods = [] := z2
  have z3 : t.overs = [] := z3
  simp only [recordedB, Bool.and_eq_true, decide_eq_true_eq] at h1
  have hd := differentB_le h1.2.2
  simp at hd
  exact ⟨fun hs => by have := hk13 hs; omega, brandedB_parts h1.1, by simp [z2], by simp [z2], by omega, by simp [z2], by simp [z3], by simp [z2], by simp [z2], by omega⟩
 split at h
 ·rename_i hk
  simp only [Bool.and_eq_true] at h
  obtain ⟨h1, h2⟩ := h
  simp only [objectsB, Bool.and_eq_true] at h1
  obtain ⟨b1, b2, b3⟩ := h1
  have hd := differentB_le b2
  simp only [objectB, Bool.and_eq_true, Bool.not_eq_true', Bool.or_eq_false_iff, List.any_eq_false] at b3
  obtain ⟨⟨c1, c2⟩, c3, c4, c5⟩ := b3
  have hm := differentB_le c3
  have ho := differentB_le c4
  simp at hd hm ho
  have hsig : ∀ m ∈ t.methods, sigB g.length m = true := by
   intro m hmm
   have := c1 m hmm
   simp only [badMethod, Bool.or_eq_true, Bool.not_eq_true', not_or, Bool.not_eq_false] at this
   exact this.1
  have hsig' : ∀ m ∈ t.methods, m.args.length ≤ 6 ∧ m.raises.length ≤ 6 ∧ (m.result = -1 ∨ 0 ≤ m.result ∧ m.result < g.length) ∧ ∀ a ∈ m.args, 0 ≤ a ∧ a < g.length := by
   intro m hmm
   have := hsig m hmm
   simp only [sigB, Bool.and_eq_true, Bool.or_eq_true, decide_eq_true_eq, Bool.not_eq_true', List.any_eq_false] at this
   obtain ⟨⟨d1, d2, d3, d4⟩, _⟩ := this
   refine ⟨d1, d2, d3.imp id fun h => hasB_iff.1 h, fun a ha => hasB_iff.1 ?_⟩
   have := d4 a ha
   simpa using this
  have hs := overB_rng c5
  exact ⟨fun _ => hs, brandedB_parts b1, fun m h => (hsig' m h).2.2.2, fun m h => (hsig' m h).2.2.1, by omega, by omega, by omega, fun m h => (hsig' m h).1, fun m h => (hsig' m h).2.1, by omega⟩
 split at h
 ·rename_i hk
  simp only [Bool.and_eq_true] at h
  obtain ⟨h1, h2⟩ := h
  obtain ⟨z1, z2, z3⟩ := zeroB_lens h2
  have z1 : t.parts = [] := z1
  have z2 : t.methods = [] := z2
  have z3 : t.overs = [] := z3
  simp only [opaqueB, Bool.and_eq_true] at h1
  have hs := overB_rng h1.2
  exact ⟨fun _ => hs, by simp [z1], by simp [z2], by simp [z2], by simp [z1], by simp [z2], by simp [z3], by simp [z2], by simp [z2], by omega⟩
 ·simp only [Bool.and_eq_true, decide_eq_true_eq] at h
  obtain ⟨h1, h2⟩ := h
  obtain ⟨z1, z2, z3⟩ := zeroB_lens h2
  exact ⟨fun hs => by have := hk13 hs; omega, by simp [z1], by simp [z2], by simp [z2], by simp [z1], by simp [z2], by simp [z3], by simp [z2], by simp [z2], h1⟩
theorem WF.fine {g : Graph} (h : WF g) {t : Ty} (ht : t ∈ g) : Fine g.length t := right_fine (h.right t ht)
theorem WF.abs {g : Graph} (h : WF g) : AbsGraph g.length (agN g) (refsN g) :=
 ⟨agN_eqOn g _, fun i hi r hr => by
  obtain ⟨x, hx, rfl⟩ := List.mem_map.1 hr
  have := (h.fine (getT_mem hi)).refs x hx
  omega, fun i j hi hj hij => by
  unfold refsN
  rw [List.length_map, List.length_map]
  exact refsL_length hij⟩
theorem refsN_cast {g : Graph} (h : WF g) {i : Nat} (hi : i < g.length) : (refsN g i).map (fun (n : Nat) => (n : Int)) = refsL (getT g i) := by
 unfold refsN
 rw [List.map_map]
 conv => rhs; rw [← List.map_id (refsL (getT g i))]
 refine List.map_congr_left fun r hr => ?_
 have := (h.fine (getT_mem hi)).refs r hr
 simp; omega
def classesG (g : Graph) : List Nat := classesN (agN g) (refsN g) g.length
end Go.Proofs.YtldnjnnhfeobdaaGreatDoor
