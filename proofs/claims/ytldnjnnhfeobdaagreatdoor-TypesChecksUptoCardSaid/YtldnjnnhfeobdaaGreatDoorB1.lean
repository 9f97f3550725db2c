/- Parts of the proof, joined: Plain functions on lists and numbers: names, symbols, brands. No program. No condition; The words in which the contracts of this seat are told: worlds that only grow, slices that read as lists, what a call hands back. No condition; Contracts: names and bytes. No condition but the bounds that are typed; Contracts: slices.IndexFunc and ContainsFunc at the types that are used. Conditions: lengths below 2^20; Contracts: IsName, isBrand, IsSymbol of the program and of the reference. Conditions: lengths below 2^20; Contracts: slices.EqualFunc and slices.Equal at the types that are used. Conditions: lengths below 2^20; Contracts: turned (a list, each element turned) at the types that are used. Conditions: lengths below 2^20; Contracts: equality of overrides, kinds, indices, and the small function values. Conditions: lengths below 2^20. -/
import Derived.Test.YtldnjnnhfeobdaaGreatDoorProg
import Derived.WalkKit
import Derived.Below
import Derived.WalkSpells
import Derived.WalkLawsBesides
import Derived.Lib.Hide
import Derived.Deep.QuietTactic
import Derived.BigQuiet
import Derived.Outline
import Derived.Shelf.Abstract
import Derived.Maps.AppendAt
import Derived.Lib.ConvBytes
import Derived.Laws.StructEq
namespace Go.Proofs.YtldnjnnhfeobdaaGreatDoor
set_option linter.all false
set_option linter.unusedSimpArgs false
set_option linter.unusedVariables false

instance decBytes : DecidableEq ByteArray := fun a b =>
  if h : a.data = b.data then isTrue (by cases a; cases b; simp at h; rw [h]) else isFalse (fun e => h (by rw [e]))

/-- is s in l? -/
def memB (s : ByteArray) (l : List ByteArray) : Bool := l.any fun t => decide (t = s)
theorem memB_append (s : ByteArray) (l m : List ByteArray) : memB s (l ++ m) = (memB s l || memB s m) := by simp [memB]
theorem memB_iff {s : ByteArray} {l : List ByteArray} : memB s l = true ↔ s ∈ l := by simp [memB]

def isLetterB (n : Int) : Bool := decide (65 ≤ n ∧ n ≤ 90 ∨ 97 ≤ n ∧ n ≤ 122)
def isDigitB (n : Int) : Bool := decide (48 ≤ n ∧ n ≤ 57)
def notNameB (n : Int) : Bool := !isLetterB n && !isDigitB n
/-- the bytes of a string -/
def byts (s : ByteArray) : List Int := s.data.toList.map fun b => (b.toNat : Int)
theorem byts_length (s : ByteArray) : (byts s).length = s.size := by simp [byts]
theorem byts_get (s : ByteArray) (i : Nat) (h : i < s.size) : (byts s)[i]'(by rw [byts_length]; exact h) = (s[i].toNat : Int) := by
  simp [byts]; rfl
def inB (n l m : Int) : Bool := decide (l ≤ n) && decide (n ≤ m)
def isNameL (l : List Int) : Bool := inB l.length 1 12 && (isLetterB (l.headD 0) && !l.any notNameB)
def isNameB (s : ByteArray) : Bool := isNameL (byts s)
theorem byts_head (s : ByteArray) (h : 0 < s.size) : (byts s).headD 0 = (s[0].toNat : Int) := by
  rw [← byts_get s 0 h]
  have hl : 0 < (byts s).length := by rw [byts_length]; exact h
  simp only [List.headD_eq_head?_getD, List.head?_eq_getElem?, List.getElem?_eq_getElem hl, Option.getD_some]
theorem byts_range (s : ByteArray) : ∀ x ∈ byts s, 0 ≤ x ∧ x ≤ 255 := by
  intro x hx
  simp only [byts, List.mem_map] at hx
  obtain ⟨b, _, rfl⟩ := hx
  have := b.toNat_lt
  omega
end Go.Proofs.YtldnjnnhfeobdaaGreatDoor
/- The words in which the contracts of this seat are told: worlds that only grow, slices that read as lists, what a call hands back. No condition. -/
namespace Go.Proofs.YtldnjnnhfeobdaaGreatDoor
set_option linter.all false
set_option linter.unusedSimpArgs false
set_option linter.unusedVariables false
open Go.RowKit

/-- all that lay in w lies in w' as it lay -/
def Ext (w w' : World) : Prop := Below w.heap.size w w'

theorem Ext.refl (w : World) : Ext w w := Below.refl _ _
theorem Ext.trans {a b c : World} (h : Ext a b) (k : Ext b c) : Ext a c :=
  Below.trans h (Below.mono k (Below.size h))
theorem Ext.alloc {a b : World} (h : Ext a b) (o : Obj) : Ext a (b.alloc o) := Below.alloc h (Below.size h) o
theorem Ext.drew {a b : World} (h : Ext a b) : Ext a b.drew := Below.drew h
theorem Ext.drewN {a b : World} (h : Ext a b) (n : Nat) : Ext a (b.drewN n) := ⟨h.os, h.tape, h.output, h.size, h.block⟩
theorem Ext.setCell {a b : World} (h : Ext a b) {p : Addr} (hp : a.heap.size ≤ p.block) (u : Value) : Ext a (b.setCell p u) := Below.setCell h hp u
theorem Ext.size {a b : World} (h : Ext a b) : a.heap.size ≤ b.heap.size := Below.size h
theorem Ext.cell {a b : World} (h : Ext a b) {p : Addr} {v : Value} (hc : a.cell? p = some v) : b.cell? p = some v :=
  (Below.cell h (World.block_lt_of_cell? a p hc)).trans hc
theorem Ext.frozen {a b : World} (h : Ext a b) {p : Addr} {v : Value} {f : Bool} (hc : a.cell? p = some v) (hf : a.frozen? p = f) : b.frozen? p = f :=
  (Below.frozen h (World.block_lt_of_cell? a p hc)).trans hf
theorem Ext.heap {a b : World} (h : Ext a b) {k : Nat} {o : Obj} (hk : a.heap[k]? = some o) : b.heap[k]? = some o := by
  rw [Below.block h k (Array.getElem?_eq_some_iff.1 hk).1]; exact hk
theorem cell_lt {w : World} {b o : Nat} {v : Value} (h : w.cell? ⟨b, o, none⟩ = some v) : b < w.heap.size := World.block_lt_of_cell? w ⟨b, o, none⟩ h
/-- a call from a later world, seen from the first -/
theorem Ext.below {B : Nat} {a b c : World} (h : Below B a b) (k : Ext b c) (hB : B ≤ b.heap.size) : Below B a c := Below.trans h (Below.mono k hB)

/-- What a call hands back: the value v; all that lay before lies as it lay. -/
def Ret (w : World) (v : Value) (e : Ending) (w' : World) : Prop := e = .returned v ∧ Ext w w'
/-- The same, of a value that is told by what it reads as. -/
def RetP (w : World) (R : World → Value → Prop) (e : Ending) (w' : World) : Prop := ∃ v, e = .returned v ∧ R w' v ∧ Ext w w'
theorem Ret.mk {w w' : World} {v u : Value} (h : u = v) (hx : Ext w w') : Ret w v (.returned u) w' := ⟨by rw [h], hx⟩

/-! ### Elements and slices -/
/-- how an element stands in memory: its cells, and what lies behind them in blocks that F lets -/
structure Elt (α : Type) where
  k : Nat
  pos : 0 < k
  rel : (Nat → Prop) → World → α → List Value → Prop
  len : ∀ F w x cs, rel F w x cs → cs.length = k
  one : ∀ F w x cs, rel F w x cs → ∀ u ∈ cs, u.oneCell' = true
  mono : ∀ (F G : Nat → Prop) w w' x cs, (∀ b, F b → b < w.heap.size → w'.heap[b]? = w.heap[b]?) → (∀ b, F b → b < w.heap.size → G b) → rel F w x cs → rel G w' x cs

def SlF {α : Type} (F : Nat → Prop) (E : Elt α) (w : World) (v : Value) (xs : List α) : Prop :=
  ∃ A cap, v = .slice A xs.length cap ∧
    ∀ i x, xs[i]? = some x → ∃ b off cs, A = some ⟨b, off, none⟩ ∧ (F b ∧ xs.length ≤ cap) ∧ E.rel F w x cs ∧ ∀ j u, cs[j]? = some u → w.cell? ⟨b, off + i * E.k + j, none⟩ = some u
def Any : Nat → Prop := fun _ => True
/-- the slice v reads as the list xs -/
def Sl {α : Type} (E : Elt α) (w : World) (v : Value) (xs : List α) : Prop := SlF Any E w v xs

theorem SlF.mono {α : Type} {E : Elt α} {F G : Nat → Prop} {w w' : World} {v : Value} {xs : List α} (h : SlF F E w v xs)
    (hw : ∀ b, F b → b < w.heap.size → w'.heap[b]? = w.heap[b]?) (hG : ∀ b, F b → b < w.heap.size → G b) : SlF G E w' v xs := by
  obtain ⟨A, cap, rfl, h⟩ := h
  refine ⟨A, cap, rfl, fun i x hi => ?_⟩
  obtain ⟨b, off, cs, hA, ⟨hF, hle⟩, hr, hc⟩ := h i x hi
  have hl := E.len _ _ _ _ hr
  have hp := E.pos
  have hb : b < w.heap.size := cell_lt (hc 0 cs[0] (List.getElem?_eq_getElem (by omega)))
  exact ⟨b, off, cs, hA, ⟨hG b hF hb, hle⟩, E.mono _ _ _ _ _ _ hw hG hr, fun j u hj => (World.cell?_of_block (w := w) (a := ⟨b, off + i * E.k + j, none⟩) (hw b hF hb)).trans (hc j u hj)⟩
theorem SlF.ext {α : Type} {E : Elt α} {F : Nat → Prop} {w w' : World} {v : Value} {xs : List α} (h : SlF F E w v xs) (hx : Ext w w') : SlF F E w' v xs :=
  h.mono (fun b _ hb => Below.block hx b hb) (fun _ h _ => h)
theorem SlF.any {α : Type} {E : Elt α} {F : Nat → Prop} {w : World} {v : Value} {xs : List α} (h : SlF F E w v xs) : Sl E w v xs :=
  h.mono (fun _ _ _ => rfl) (fun _ _ _ => trivial)
theorem Sl.mono {α : Type} {E : Elt α} {w w' : World} {v : Value} {xs : List α} (h : Sl E w v xs) (hx : Ext w w') : Sl E w' v xs := SlF.ext h hx
theorem Elt.ext {α : Type} {E : Elt α} {F : Nat → Prop} {w w' : World} {x : α} {cs : List Value} (h : E.rel F w x cs) (hx : Ext w w') : E.rel F w' x cs :=
  E.mono _ _ _ _ _ _ (fun b _ hb => Below.block hx b hb) (fun _ h _ => h) h

theorem Sl.nil {α : Type} (E : Elt α) (w : World) : Sl E w (.slice none 0 0) [] := ⟨none, 0, rfl, fun i x h => by simp at h⟩
theorem SlF.nil {α : Type} (F : Nat → Prop) (E : Elt α) (w : World) : SlF F E w (.slice none 0 0) [] := ⟨none, 0, rfl, fun i x h => by simp at h⟩

theorem Sl.cap_le {α : Type} {E : Elt α} {w : World} {A : Option Addr} {n c : Nat} {xs : List α} (h : Sl E w (.slice A n c) xs) : xs.length ≤ c := by
  obtain ⟨A', c', e, h⟩ := h
  injection e with _ _ e3
  subst e3
  cases xs with
  | nil => simp
  | cons x xs =>
    obtain ⟨_, _, _, _, ⟨_, hle⟩, _⟩ := h 0 x rfl
    exact hle
def intE : Elt Int where
  k := 1
  pos := by decide
  rel _ _ n cs := cs = [.int .i64 n]
  len := by rintro F w x cs rfl; rfl
  one := by rintro F w x cs rfl; simp [Value.oneCell']
  mono := fun _ _ _ _ _ _ _ _ h => h

def byteE : Elt Int where
  k := 1
  pos := by decide
  rel _ _ n cs := cs = [.int .u8 n]
  len := by rintro F w x cs rfl; rfl
  one := by rintro F w x cs rfl; simp [Value.oneCell']
  mono := fun _ _ _ _ _ _ _ _ h => h

def strE : Elt ByteArray where
  k := 1
  pos := by decide
  rel _ _ s cs := cs = [.string s]
  len := by rintro F w x cs rfl; rfl
  one := by rintro F w x cs rfl; simp [Value.oneCell']
  mono := fun _ _ _ _ _ _ _ _ h => h

structure Part where
  name : ByteArray
  type : Int
structure Method where
  name : ByteArray
  args : List Int
  result : Int
  raises : List ByteArray
  proc : ByteArray
structure Over where
  name : ByteArray
  proc : ByteArray
structure Ty where
  kind : Int
  low : Int
  high : Int
  branded : Bool
  brand : ByteArray
  opaq : ByteArray
  super : Int
  parts : List Part
  methods : List Method
  overs : List Over
abbrev Graph := List Ty

def partE : Elt Part where
  k := 2
  pos := by decide
  rel _ _ p cs := cs = [.string p.name, .int .i64 p.type]
  len := by rintro F w x cs rfl; rfl
  one := by rintro F w x cs rfl; simp [Value.oneCell']
  mono := fun _ _ _ _ _ _ _ _ h => h

def overE : Elt Over where
  k := 2
  pos := by decide
  rel _ _ p cs := cs = [.string p.name, .string p.proc]
  len := by rintro F w x cs rfl; rfl
  one := by rintro F w x cs rfl; simp [Value.oneCell']
  mono := fun _ _ _ _ _ _ _ _ h => h

def methodE : Elt Method where
  k := 5
  pos := by decide
  rel F w m cs := ∃ va vr, cs = [.string m.name, va, .int .i64 m.result, vr, .string m.proc] ∧ SlF F intE w va m.args ∧ SlF F strE w vr m.raises
  len := by rintro F w x cs ⟨va, vr, rfl, _⟩; rfl
  one := by rintro F w x cs ⟨va, vr, rfl, ⟨_, _, rfl, _⟩, ⟨_, _, rfl, _⟩⟩; simp [Value.oneCell']
  mono := fun _ _ _ _ _ _ hw hG ⟨va, vr, e, ha, hr⟩ => ⟨va, vr, e, ha.mono hw hG, hr.mono hw hG⟩

def tyE : Elt Ty where
  k := 10
  pos := by decide
  rel F w t cs := ∃ vp vm vo, cs = [.int .u8 t.kind, .int .i64 t.low, .int .i64 t.high, .bool t.branded, .string t.brand, .string t.opaq, .int .i64 t.super, vp, vm, vo] ∧
    SlF F partE w vp t.parts ∧ SlF F methodE w vm t.methods ∧ SlF F overE w vo t.overs
  len := by rintro F w x cs ⟨va, vr, vo, rfl, _⟩; rfl
  one := by rintro F w x cs ⟨va, vr, vo, rfl, ⟨_, _, rfl, _⟩, ⟨_, _, rfl, _⟩, ⟨_, _, rfl, _⟩⟩; simp [Value.oneCell']
  mono := fun _ _ _ _ _ _ hw hG ⟨vp, vm, vo, e, hp, hm, ho⟩ => ⟨vp, vm, vo, e, hp.mono hw hG, hm.mono hw hG, ho.mono hw hG⟩

/-! ### What a place of a slice holds, in the walk's own spelling -/
section
variable {w : World} {v : Value}

theorem Sl.len {α : Type} {E : Elt α} {xs : List α} (h : Sl E w v xs) : ∃ A cap, v = .slice A xs.length cap := by
  obtain ⟨A, cap, rfl, _⟩ := h
  exact ⟨A, cap, rfl⟩

theorem Sl.int {xs : List Int} (h : Sl intE w v xs) : ∃ A cap, v = .slice A xs.length cap ∧
    ∀ i (hi : i < xs.length), ∃ b off, A = some ⟨b, off, none⟩ ∧ w.cell? ⟨b, off + i, none⟩ = some (.int .i64 xs[i]) := by
  obtain ⟨A, cap, rfl, h⟩ := h
  refine ⟨A, cap, rfl, fun i hi => ?_⟩
  obtain ⟨b, off, cs, hA, _, rfl, hc⟩ := h i xs[i] (List.getElem?_eq_getElem hi)
  exact ⟨b, off, hA, by simpa [intE] using hc 0 _ rfl⟩

theorem Sl.byte {xs : List Int} (h : Sl byteE w v xs) : ∃ A cap, v = .slice A xs.length cap ∧
    ∀ i (hi : i < xs.length), ∃ b off, A = some ⟨b, off, none⟩ ∧ w.cell? ⟨b, off + i, none⟩ = some (.int .u8 xs[i]) := by
  obtain ⟨A, cap, rfl, h⟩ := h
  refine ⟨A, cap, rfl, fun i hi => ?_⟩
  obtain ⟨b, off, cs, hA, _, rfl, hc⟩ := h i xs[i] (List.getElem?_eq_getElem hi)
  exact ⟨b, off, hA, by simpa [byteE] using hc 0 _ rfl⟩

theorem Sl.str {xs : List ByteArray} (h : Sl strE w v xs) : ∃ A cap, v = .slice A xs.length cap ∧
    ∀ i (hi : i < xs.length), ∃ b off, A = some ⟨b, off, none⟩ ∧ w.cell? ⟨b, off + i, none⟩ = some (.string xs[i]) := by
  obtain ⟨A, cap, rfl, h⟩ := h
  refine ⟨A, cap, rfl, fun i hi => ?_⟩
  obtain ⟨b, off, cs, hA, _, rfl, hc⟩ := h i xs[i] (List.getElem?_eq_getElem hi)
  exact ⟨b, off, hA, by simpa [strE] using hc 0 _ rfl⟩

theorem Sl.part {xs : List Part} (h : Sl partE w v xs) : ∃ A cap, v = .slice A xs.length cap ∧
    ∀ i (hi : i < xs.length), ∃ b off, A = some ⟨b, off, none⟩ ∧ w.cell? ⟨b, off + i * 2, none⟩ = some (.string xs[i].name) ∧ w.cell? ⟨b, off + i * 2 + 1, none⟩ = some (.int .i64 xs[i].type) := by
  obtain ⟨A, cap, rfl, h⟩ := h
  refine ⟨A, cap, rfl, fun i hi => ?_⟩
  obtain ⟨b, off, cs, hA, _, rfl, hc⟩ := h i xs[i] (List.getElem?_eq_getElem hi)
  exact ⟨b, off, hA, by simpa [partE] using hc 0 _ rfl, by simpa [partE] using hc 1 _ rfl⟩

theorem Sl.over {xs : List Over} (h : Sl overE w v xs) : ∃ A cap, v = .slice A xs.length cap ∧
    ∀ i (hi : i < xs.length), ∃ b off, A = some ⟨b, off, none⟩ ∧ w.cell? ⟨b, off + i * 2, none⟩ = some (.string xs[i].name) ∧ w.cell? ⟨b, off + i * 2 + 1, none⟩ = some (.string xs[i].proc) := by
  obtain ⟨A, cap, rfl, h⟩ := h
  refine ⟨A, cap, rfl, fun i hi => ?_⟩
  obtain ⟨b, off, cs, hA, _, rfl, hc⟩ := h i xs[i] (List.getElem?_eq_getElem hi)
  exact ⟨b, off, hA, by simpa [overE] using hc 0 _ rfl, by simpa [overE] using hc 1 _ rfl⟩

theorem Sl.method {xs : List Method} (h : Sl methodE w v xs) : ∃ A cap, v = .slice A xs.length cap ∧
    ∀ i (hi : i < xs.length), ∃ b off va vr, A = some ⟨b, off, none⟩ ∧ Sl intE w va xs[i].args ∧ Sl strE w vr xs[i].raises ∧
      w.cell? ⟨b, off + i * 5, none⟩ = some (.string xs[i].name) ∧ w.cell? ⟨b, off + i * 5 + 1, none⟩ = some va ∧ w.cell? ⟨b, off + i * 5 + 2, none⟩ = some (.int .i64 xs[i].result) ∧
      w.cell? ⟨b, off + i * 5 + 3, none⟩ = some vr ∧ w.cell? ⟨b, off + i * 5 + 4, none⟩ = some (.string xs[i].proc) := by
  obtain ⟨A, cap, rfl, h⟩ := h
  refine ⟨A, cap, rfl, fun i hi => ?_⟩
  obtain ⟨b, off, cs, hA, _, ⟨va, vr, rfl, ha, hr⟩, hc⟩ := h i xs[i] (List.getElem?_eq_getElem hi)
  exact ⟨b, off, va, vr, hA, ha, hr, by simpa [methodE] using hc 0 _ rfl, by simpa [methodE] using hc 1 _ rfl, by simpa [methodE] using hc 2 _ rfl, by simpa [methodE] using hc 3 _ rfl, by simpa [methodE] using hc 4 _ rfl⟩

/-- the cells of a type, as a row at a place -/
structure TyAt (w : World) (b o : Nat) (t : Ty) (vp vm vo : Value) : Prop where
  c0 : w.cell? ⟨b, o, none⟩ = some (.int .u8 t.kind)
  c1 : w.cell? ⟨b, o + 1, none⟩ = some (.int .i64 t.low)
  c2 : w.cell? ⟨b, o + 2, none⟩ = some (.int .i64 t.high)
  c3 : w.cell? ⟨b, o + 3, none⟩ = some (.bool t.branded)
  c4 : w.cell? ⟨b, o + 4, none⟩ = some (.string t.brand)
  c5 : w.cell? ⟨b, o + 5, none⟩ = some (.string t.opaq)
  c6 : w.cell? ⟨b, o + 6, none⟩ = some (.int .i64 t.super)
  c7 : w.cell? ⟨b, o + 7, none⟩ = some vp
  c8 : w.cell? ⟨b, o + 8, none⟩ = some vm
  c9 : w.cell? ⟨b, o + 9, none⟩ = some vo
/-- what its slices read as -/
structure TyOf (w : World) (t : Ty) (vp vm vo : Value) : Prop where
  parts : Sl partE w vp t.parts
  methods : Sl methodE w vm t.methods
  overs : Sl overE w vo t.overs
theorem TyAt.mono {w w' : World} {b o : Nat} {t : Ty} {vp vm vo : Value} (h : TyAt w b o t vp vm vo) (hx : Ext w w') : TyAt w' b o t vp vm vo :=
  ⟨hx.cell h.c0, hx.cell h.c1, hx.cell h.c2, hx.cell h.c3, hx.cell h.c4, hx.cell h.c5, hx.cell h.c6, hx.cell h.c7, hx.cell h.c8, hx.cell h.c9⟩
theorem TyOf.mono {w w' : World} {t : Ty} {vp vm vo : Value} (h : TyOf w t vp vm vo) (hx : Ext w w') : TyOf w' t vp vm vo :=
  ⟨h.parts.mono hx, h.methods.mono hx, h.overs.mono hx⟩

theorem Sl.ty {xs : List Ty} (h : Sl tyE w v xs) : ∃ A cap, v = .slice A xs.length cap ∧
    ∀ i (hi : i < xs.length), ∃ b off vp vm vo, A = some ⟨b, off, none⟩ ∧ TyAt w b (off + i * 10) xs[i] vp vm vo ∧ TyOf w xs[i] vp vm vo := by
  obtain ⟨A, cap, rfl, h⟩ := h
  refine ⟨A, cap, rfl, fun i hi => ?_⟩
  obtain ⟨b, off, cs, hA, _, ⟨vp, vm, vo, rfl, hp, hm, ho⟩, hc⟩ := h i xs[i] (List.getElem?_eq_getElem hi)
  exact ⟨b, off, vp, vm, vo, hA, ⟨hc 0 _ rfl, hc 1 _ rfl, hc 2 _ rfl, hc 3 _ rfl, hc 4 _ rfl, hc 5 _ rfl, hc 6 _ rfl, hc 7 _ rfl, hc 8 _ rfl, hc 9 _ rfl⟩, ⟨hp, hm, ho⟩⟩
end


/-! ### A slice of the call's own, appended to -/
/-- the slice type t has elements e of k cells and so many bytes -/
structure SliceOf (P : Program) (t e : TypeId) (k bytes : Nat) : Prop where
  under : P.underlying t = some (.slice e)
  info : ∃ i z, P.info? e = some i ∧ i.zero = some z ∧ i.size = k ∧ i.bytes = bytes ∧ z.cells.size = k
theorem SliceOf.mk' {P : Program} {t e : TypeId} {k bytes : Nat} (h : P.underlying t = some (.slice e))
    (hi : (P.info? e).map (fun i => (i.zero.map (·.cells.size), i.size, i.bytes)) = some (some k, k, bytes)) : SliceOf P t e k bytes := by
  obtain ⟨i, hi, he⟩ := Option.map_eq_some_iff.1 hi
  simp only [Prod.mk.injEq] at he
  obtain ⟨z, hz, hk⟩ := Option.map_eq_some_iff.1 he.1
  exact ⟨h, i, z, hi, hz, he.2.1, he.2.2, hk⟩

/-- v is a slice of the call's own (blocks from base on) that reads as xs; what lies behind its elements lies in F, and not in v's own block -/
def Own {α : Type} (F : Nat → Prop) (E : Elt α) (w : World) (base : Nat) (e : TypeId) (v : Value) (xs : List α) : Prop :=
  ∃ rows : List (List Value), rows.length = xs.length ∧ w.ownsRow base e E.k v xs.length rows.flatten ∧
    ∀ (i : Nat) (x : α) (r : List Value), xs[i]? = some x → rows[i]? = some r → E.rel (fun b => F b ∧ some b ≠ v.ownBlock) w x r

theorem Own.nil {α : Type} (F : Nat → Prop) (E : Elt α) (w : World) (base : Nat) (e : TypeId) : Own F E w base e (.slice none 0 0) [] :=
  ⟨[], rfl, by simpa using World.ownsRow_nil w base e E.k, fun i x r h => by simp at h⟩

/-- What is laid or written elsewhere leaves it. -/
theorem Own.kept {α : Type} {F : Nat → Prop} {E : Elt α} {w w' : World} {base : Nat} {e : TypeId} {v : Value} {xs : List α} (h : Own F E w base e v xs) (hx : Ext w w') : Own F E w' base e v xs := by
  obtain ⟨rows, hl, ho, hr⟩ := h
  exact ⟨rows, hl, ho.kept (row := none) ⟨Below.os hx, Below.tape hx, Below.output hx, Below.size hx, fun k hk _ => Below.block hx k hk⟩ (by cases v.ownBlock <;> simp), fun i x r h1 h2 => Elt.ext (hr i x r h1 h2) hx⟩

theorem flatten_get {k : Nat} : ∀ (rows : List (List Value)) (_ : ∀ r ∈ rows, r.length = k) (i j : Nat) (r : List Value) (u : Value), rows[i]? = some r → r[j]? = some u → rows.flatten[i * k + j]? = some u
  | [], _, i, j, r, u, h, _ => by simp at h
  | s :: rows, hk, 0, j, r, u, h, hj => by
    simp at h
    subst h
    have hlt : j < s.length := (List.getElem?_eq_some_iff.1 hj).1
    rw [List.flatten_cons, Nat.zero_mul, Nat.zero_add, List.getElem?_append_left hlt]
    exact hj
  | s :: rows, hk, i + 1, j, r, u, h, hj => by
    have hs : s.length = k := hk s (by simp)
    have h' : rows[i]? = some r := by simpa using h
    rw [List.flatten_cons, List.getElem?_append_right (by rw [hs, Nat.add_mul]; omega)]
    rw [show (i + 1) * k + j - s.length = i * k + j by rw [hs, Nat.add_mul]; omega]
    exact flatten_get rows (fun r hr => hk r (by simp [hr])) i j r u h' hj

theorem Own.sl {α : Type} {F : Nat → Prop} {E : Elt α} {w : World} {base : Nat} {e : TypeId} {v : Value} {xs : List α} (h : Own F E w base e v xs) (hF : ∀ b, base ≤ b → F b) : SlF F E w v xs := by
  obtain ⟨rows, hl, ho, hr⟩ := h
  have hk : ∀ r ∈ rows, r.length = E.k := by
    intro r hm
    obtain ⟨i, hi, rfl⟩ := List.mem_iff_getElem.1 hm
    exact E.len _ _ _ _ (hr i (xs[i]'(by omega)) rows[i] (List.getElem?_eq_getElem (by omega)) (List.getElem?_eq_getElem hi))
  rcases ho.2 with ⟨rfl, h0⟩ | ⟨g, cap, cur, rfl, hg, hrest⟩
  · have : xs = [] := List.eq_nil_of_length_eq_zero h0
    subst this
    exact SlF.nil _ _ _
  · refine ⟨_, cap, rfl, fun i x hi => ?_⟩
    have hlt : i < xs.length := (List.getElem?_eq_some_iff.1 hi).1
    have hrow : rows[i]? = some (rows[i]'(by omega)) := List.getElem?_eq_getElem (by omega)
    refine ⟨g, 0, rows[i]'(by omega), rfl, ⟨hF g hg, hrest.2.1⟩, E.mono _ _ _ _ _ _ (fun _ _ _ => rfl) (fun _ h _ => h.1) (hr i x _ hi hrow), fun j u hj => ?_⟩
    have hc := ho.cells (g := g) rfl (i * E.k + j) u (flatten_get rows hk i j _ u hrow hj)
    have ha : (⟨g, 0, none⟩ : Addr).add (i * E.k + j) = ⟨g, 0 + i * E.k + j, none⟩ := by unfold Addr.add; split <;> simp_all
    rwa [ha] at hc

theorem Own.len {α : Type} {F : Nat → Prop} {E : Elt α} {w : World} {base : Nat} {e : TypeId} {v : Value} {xs : List α} (h : Own F E w base e v xs) : ∃ A cap, v = .slice A xs.length cap := by
  obtain ⟨rows, hl, ho, hr⟩ := h
  rcases ho.2 with ⟨rfl, h0⟩ | ⟨g, cap, cur, rfl, hg, hrest⟩
  · exact ⟨none, 0, by rw [h0]⟩
  · exact ⟨_, cap, rfl⟩

theorem Own.lt {α : Type} {F : Nat → Prop} {E : Elt α} {w : World} {base : Nat} {e : TypeId} {v : Value} {xs : List α} (h : Own F E w base e v xs) : ∀ k, v.ownBlock = some k → base ≤ k ∧ k < w.heap.size := by
  obtain ⟨rows, hl, ho, hr⟩ := h
  exact ho.lt

section
variable {P : Program} {ops : Array Oper} {rest : List Oper} {o : Oper} {a : Act} {Q : Exit → Act → World → Prop}
/-- append of one element, which lies in a new block behind W -/
theorem own_append {α : Type} {F : Nat → Prop} (E : Elt α) {W : World} (base : Nat) (hgd : o.guard = none) (s x : Operand) (t e : TypeId) (bytes : Nat)
    (ho : o.op = .call { callee := .builtin .append, args := #[s, x], argTypes := #[t, t] }) (hI : SliceOf P t e E.k bytes)
    (v : Value) (xs : List α) (y : α) (cs : List Value) (hs : a.eval s = v) (hx : a.eval x = .slice (some ⟨W.heap.size, 0, none⟩) 1 1)
    (HO : Own F E W base e v xs) (hy : E.rel (fun b => F b ∧ some b ≠ v.ownBlock) W y cs) (hbase : base ≤ W.heap.size) (hl : (xs.length + 1) * bytes ≤ 140737488355328) (hb0 : 0 < bytes)
    (h : ∀ v1 w1, Own F E w1 base e v1 (xs ++ [y]) → W.grownBy w1 v.ownBlock → wpList P ops Q rest (a.put o.dst v1) w1) :
    wpList P ops Q (o :: rest) a (W.alloc (.cells cs.toArray e)) := by
  obtain ⟨i, z, hi, hz, hsz, hby, hzs⟩ := hI.info
  obtain ⟨rows, hrl, hown, hr⟩ := HO
  have hcl : cs.length = E.k := E.len _ _ _ _ hy
  have hlen : xs.length + 1 ≤ 140737488355328 := Nat.le_trans (Nat.le_mul_of_pos_right _ hb0) hl
  refine wpList_append_own_at (W.alloc (.cells cs.toArray e)) hgd s x t ho base e i z E.k bytes hI.under hi hz hsz hby hzs E.pos v xs.length rows.flatten hs (hown.alloc _) ⟨W.heap.size, 0, none⟩ 1 1 cs hx (by omega)
    (fun j u hj => ?_) (E.one _ _ _ _ hy) (by simp only [maxLen]; omega) hl (by simp; omega) ?_
  · have hlt : j < cs.length := (List.getElem?_eq_some_iff.1 hj).1
    have ha : (⟨W.heap.size, 0, none⟩ : Addr).add j = ⟨W.heap.size, j, none⟩ := by unfold Addr.add; split <;> simp_all
    rw [ha, World.cell?_alloc_new]
    simpa using hj
  · intro v1 w1 hown1 hg _ hat
    have hg' : W.grownBy w1 v.ownBlock := World.grownBy.trans (World.grownBy_alloc W _ _) hg
    have hlt := hown.lt
    refine h v1 w1 ⟨rows ++ [cs], by simp [hrl], by simpa using hown1, ?_⟩ hg'
    intro k x1 r h1 h2
    have keep : ∀ x2 r2, E.rel (fun b => F b ∧ some b ≠ v.ownBlock) W x2 r2 → E.rel (fun b => F b ∧ some b ≠ v1.ownBlock) w1 x2 r2 := by
      intro x2 r2 h3
      refine E.mono _ _ _ _ _ _ (fun b hb hbl => hg'.block b hbl hb.2) (fun b hb hbl => ⟨hb.1, ?_⟩) h3
      rcases hat with hat | hat
      · rw [hat]; exact hb.2
      · rw [hat]; intro e; injection e with e; simp at e; omega
    by_cases hk : k < xs.length
    · rw [List.getElem?_append_left hk] at h1
      rw [List.getElem?_append_left (by omega)] at h2
      exact keep _ _ (hr k x1 r h1 h2)
    · rw [List.getElem?_append_right (by omega)] at h1
      rw [List.getElem?_append_right (by omega), hrl] at h2
      have hk0 : k - xs.length = 0 := by
        have := (List.getElem?_eq_some_iff.1 h1).1
        simp at this
        omega
      rw [hk0] at h1 h2
      simp at h1 h2
      subst h1 h2
      exact keep _ _ hy
end

end Go.Proofs.YtldnjnnhfeobdaaGreatDoor
/- Contracts: names and bytes. No condition but the bounds that are typed. -/
namespace Go.Proofs.YtldnjnnhfeobdaaGreatDoor
set_option linter.all false
set_option linter.unusedSimpArgs false
set_option linter.unusedVariables false
open Go.RowKit

theorem in_any (n l m : Int) (w : World) :
    Calls Tryz.prog 59 #[.int .i64 n, .int .i64 l, .int .i64 m] w fun e w' => e = .returned (.bool (inB n l m)) ∧ w = w' := by
  by_cases h : l ≤ n <;> by_cases h2 : n ≤ m
  all_goals
    go_enter Tryz.func59, Tryz.ntmps59
    go_wp2
    go_ret
    exact ⟨by simp_all [inB], rfl⟩

theorem isLetter_any (n : Int) (w : World) :
    Calls Tryz.prog 65 #[.int .u8 n] w fun e w' => e = .returned (.bool (isLetterB n)) ∧ w = w' := by
  by_cases h1 : 65 ≤ n <;> by_cases h2 : n ≤ 90 <;> by_cases h3 : 97 ≤ n <;> by_cases h4 : n ≤ 122
  all_goals (first | (exfalso; omega) | skip)
  all_goals
    go_enter Tryz.func65, Tryz.ntmps65
    go_wp2
    go_ret
    exact ⟨by simp_all [isLetterB], rfl⟩

theorem letter_any (n : Int) (w : World) :
    Calls Tryz.prog 68 #[.int .u8 n] w fun e w' => e = .returned (.bool (isLetterB n)) ∧ w = w' := by
  by_cases h1 : 65 ≤ n <;> by_cases h2 : n ≤ 90 <;> by_cases h3 : 97 ≤ n <;> by_cases h4 : n ≤ 122
  all_goals (first | (exfalso; omega) | skip)
  all_goals
    go_enter Tryz.func68, Tryz.ntmps68
    go_wp2
    go_ret
    exact ⟨by simp_all [isLetterB], rfl⟩

theorem digit_any (n : Int) (w : World) :
    Calls Tryz.prog 69 #[.int .u8 n] w fun e w' => e = .returned (.bool (isDigitB n)) ∧ w = w' := by
  by_cases h1 : 48 ≤ n <;> by_cases h2 : n ≤ 57
  all_goals
    go_enter Tryz.func69, Tryz.ntmps69
    go_wp2
    go_ret
    exact ⟨by simp_all [isDigitB], rfl⟩

theorem isName1_any (n : Int) (w : World) :
    Calls Tryz.prog 67 #[.int .u8 n] w fun e w' => e = .returned (.bool (notNameB n)) ∧ w = w' := by
  cases hl : isLetterB n
  all_goals by_cases h1 : 48 ≤ n <;> by_cases h2 : n ≤ 57
  all_goals
    have H := Lib.hid hl
    clear hl
    go_enter Tryz.func67, Tryz.ntmps67
    go_wp2_with fail
    refine (isLetter_any _ _).mono ?_
    rintro e w' ⟨rfl, rfl⟩
    rw [H.out]
    go_wp2_with fail
    go_ret
    exact ⟨by have := H.out; simp_all [notNameB, isDigitB], rfl⟩
end Go.Proofs.YtldnjnnhfeobdaaGreatDoor
/- Contracts: slices.IndexFunc and ContainsFunc at the types that are used. Conditions: lengths below 2^20. -/
namespace Go.Proofs.YtldnjnnhfeobdaaGreatDoor
set_option linter.all false
set_option linter.unusedSimpArgs false
set_option linter.unusedVariables false
open Go.RowKit Go.Shelf

/-- an element as an argument -/
def pack : List Value → Value
  | [v] => v
  | cs => .agg cs.toArray
def Arg {α : Type} (E : Elt α) (w : World) (x : α) (A : Value) : Prop := ∃ cs, E.rel Any w x cs ∧ A = pack cs
/-- a function value that answers p at each of xs, whatever has been laid behind w -/
def Pred {α : Type} (E : Elt α) (w : World) (g : Nat) (cb : Array Value) (xs : List α) (p : α → Bool) : Prop :=
  Enters Tryz.prog g ∧ ∀ x ∈ xs, ∀ w' A, Ext w w' → Arg E w' x A → Calls Tryz.prog g (#[A] ++ cb) w' (Ret w' (.bool (p x)))
theorem Pred.mono {α : Type} {E : Elt α} {w w1 : World} {g : Nat} {cb : Array Value} {xs : List α} {p : α → Bool} (h : Pred E w g cb xs p) (hx : Ext w w1) : Pred E w1 g cb xs p :=
  ⟨h.1, fun x hm w' A hx' ha => h.2 x hm w' A (hx.trans hx') ha⟩
def idxF {α : Type} (p : α → Bool) (xs : List α) : Int := match xs.findIdx? p with | some i => (i : Int) | none => -1
theorem idxF_found {α : Type} {p : α → Bool} {xs : List α} {j : Nat} (hj : j < xs.length) (h : ∀ i (hi : i < xs.length), i < j → p xs[i] = false) (hp : p xs[j] = true) : idxF p xs = (j : Int) := by
  have : xs.findIdx? p = some j := by
    rw [List.findIdx?_eq_some_iff_getElem]
    exact ⟨hj, hp, fun k hk => by rw [h k (by omega) hk]; simp⟩
  unfold idxF
  rw [this]
theorem idxF_none {α : Type} {p : α → Bool} {xs : List α} {j : Nat} (hj : ¬ j < xs.length) (h : ∀ i (hi : i < xs.length), i < j → p xs[i] = false) : idxF p xs = -1 := by
  have : xs.findIdx? p = none := by
    rw [List.findIdx?_eq_none_iff]
    intro x hx
    obtain ⟨i, hi, rfl⟩ := List.mem_iff_getElem.1 hx
    exact h i hi (by omega)
  unfold idxF
  rw [this]
theorem idxF_any {α : Type} (p : α → Bool) (xs : List α) : decide (0 ≤ idxF p xs) = xs.any p := by
  unfold idxF
  cases h : xs.findIdx? p with
  | none =>
    rw [List.findIdx?_eq_none_iff] at h
    have : xs.any p = false := by
      rw [List.any_eq_false]
      intro x hx
      rw [h x hx]
      simp
    rw [this]; rfl
  | some i =>
    rw [List.findIdx?_eq_some_iff_getElem] at h
    obtain ⟨hi, hp, _⟩ := h
    have : xs.any p = true := by
      rw [List.any_eq_true]
      exact ⟨xs[i], List.getElem_mem hi, hp⟩
    rw [this]
    simp

set_option maxRecDepth 100000 in
set_option maxHeartbeats 1000000 in
theorem indexFunc_byte (g : Nat) (cb : Array Value) (w : World) (v : Value) (xs : List Int) (p : Int → Bool) (hv : Sl byteE w v xs) (hn : xs.length ≤ 1048576)
    (hp : Pred byteE w g cb xs p) :
    Calls Tryz.prog 121 #[v, .func (.func g) #[] cb] w (Ret w (.int .i64 (idxF p xs))) := by
  obtain ⟨A, cap, rfl, hs⟩ := hv.byte
  have eg : ∀ args w, (callFunc g args).run Tryz.prog w = .ok (.enter g args) w := hp.1
  have Hp := Lib.hid hp.2
  have Hs := Lib.hid hs
  clear hp hs hv
  go_enter Tryz.func121, Tryz.ntmps121
  go_wp2_with fail
  go_loopw [8] (fun k wr => ∃ j : Nat, j ≤ xs.length ∧ k = .int .i64 j ∧ Ext w wr ∧ Hid (∀ i (h : i < xs.length), i < j → p xs[i] = false)) (fun k _ => xs.length - (intOf k).toNat)
  case atStart => exact ⟨0, by omega, by simp, Ext.refl _, fun i _ h => by omega⟩
  case round =>
    obtain ⟨j, hj, rfl, hx, hno⟩ := hrel
    by_cases hlt : j < xs.length
    · obtain ⟨b, off, rfl, h0⟩ := Hs.out j hlt
      have h0 := hx.cell h0
      go_wp2_with fail
      refine (Hp.out xs[j] (List.getElem_mem hlt) _ _ hx ⟨_, rfl, rfl⟩).mono ?_
      rintro e w1 ⟨rfl, hx1⟩
      cases hpj : p xs[j]
      · have Hpj := Lib.hid hpj
        clear hpj
        go_wp2_with fail
        go_roundw
        case rel => exact ⟨j + 1, by omega, by go_num, hx.trans hx1, fun i h hi => by
            by_cases e : i = j
            · subst e; exact Hpj.out
            · exact hno.out i h (by omega)⟩
        case measure => simp [intOf]; omega
      · have Hpj := Lib.hid hpj
        clear hpj
        go_wp2_with fail
        go_ret
        exact ⟨by rw [idxF_found hlt hno.out Hpj.out]; rfl, hx.trans hx1⟩
    · go_wp2_with fail
      go_ret
      exact ⟨by rw [idxF_none hlt hno.out]; rfl, hx⟩

set_option maxRecDepth 100000 in
theorem containsFunc_byte (g : Nat) (cb : Array Value) (w : World) (v : Value) (xs : List Int) (p : Int → Bool) (hv : Sl byteE w v xs) (hn : xs.length ≤ 1048576)
    (hp : Pred byteE w g cb xs p) :
    Calls Tryz.prog 66 #[v, .func (.func g) #[] cb] w (Ret w (.bool (xs.any p))) := by
  have Hp := Lib.hid hp
  have Hv := Lib.hid hv
  have hc := indexFunc_byte g cb w v xs p hv hn hp
  rw [← idxF_any]
  clear hp hv
  generalize idxF p xs = r at hc ⊢
  have Hc := Lib.hid hc
  clear hc
  go_enter Tryz.func66, Tryz.ntmps66
  go_wp2_with fail
  refine Hc.out.mono ?_
  rintro e w1 ⟨rfl, hx1⟩
  go_wp2_with fail
  go_ret
  exact ⟨rfl, hx1⟩

set_option maxRecDepth 100000 in
set_option maxHeartbeats 1000000 in
theorem indexFunc_int (g : Nat) (cb : Array Value) (w : World) (v : Value) (xs : List Int) (p : Int → Bool) (hv : Sl intE w v xs) (hn : xs.length ≤ 1048576)
    (hp : Pred intE w g cb xs p) :
    Calls Tryz.prog 150 #[v, .func (.func g) #[] cb] w (Ret w (.int .i64 (idxF p xs))) := by
  obtain ⟨A, cap, rfl, hs⟩ := hv.int
  have eg : ∀ args w, (callFunc g args).run Tryz.prog w = .ok (.enter g args) w := hp.1
  have Hp := Lib.hid hp.2
  have Hs := Lib.hid hs
  clear hp hs hv
  go_enter Tryz.func150, Tryz.ntmps150
  go_wp2_with fail
  go_loopw [8] (fun k wr => ∃ j : Nat, j ≤ xs.length ∧ k = .int .i64 j ∧ Ext w wr ∧ Hid (∀ i (h : i < xs.length), i < j → p xs[i] = false)) (fun k _ => xs.length - (intOf k).toNat)
  case atStart => exact ⟨0, by omega, by simp, Ext.refl _, fun i _ h => by omega⟩
  case round =>
    obtain ⟨j, hj, rfl, hx, hno⟩ := hrel
    by_cases hlt : j < xs.length
    · obtain ⟨b, off, rfl, h0⟩ := Hs.out j hlt
      have h0 := hx.cell h0
      go_wp2_with fail
      refine (Hp.out xs[j] (List.getElem_mem hlt) _ _ hx ⟨_, rfl, rfl⟩).mono ?_
      rintro e w1 ⟨rfl, hx1⟩
      cases hpj : p xs[j]
      · have Hpj := Lib.hid hpj
        clear hpj
        go_wp2_with fail
        go_roundw
        case rel => exact ⟨j + 1, by omega, by go_num, hx.trans hx1, fun i h hi => by
            by_cases e : i = j
            · subst e; exact Hpj.out
            · exact hno.out i h (by omega)⟩
        case measure => simp [intOf]; omega
      · have Hpj := Lib.hid hpj
        clear hpj
        go_wp2_with fail
        go_ret
        exact ⟨by rw [idxF_found hlt hno.out Hpj.out]; rfl, hx.trans hx1⟩
    · go_wp2_with fail
      go_ret
      exact ⟨by rw [idxF_none hlt hno.out]; rfl, hx⟩

set_option maxRecDepth 100000 in
theorem containsFunc_int (g : Nat) (cb : Array Value) (w : World) (v : Value) (xs : List Int) (p : Int → Bool) (hv : Sl intE w v xs) (hn : xs.length ≤ 1048576)
    (hp : Pred intE w g cb xs p) :
    Calls Tryz.prog 102 #[v, .func (.func g) #[] cb] w (Ret w (.bool (xs.any p))) := by
  have Hp := Lib.hid hp
  have Hv := Lib.hid hv
  have hc := indexFunc_int g cb w v xs p hv hn hp
  rw [← idxF_any]
  clear hp hv
  generalize idxF p xs = r at hc ⊢
  have Hc := Lib.hid hc
  clear hc
  go_enter Tryz.func102, Tryz.ntmps102
  go_wp2_with fail
  refine Hc.out.mono ?_
  rintro e w1 ⟨rfl, hx1⟩
  go_wp2_with fail
  go_ret
  exact ⟨rfl, hx1⟩

set_option maxRecDepth 100000 in
set_option maxHeartbeats 1000000 in
theorem indexFunc_part (g : Nat) (cb : Array Value) (w : World) (v : Value) (xs : List Part) (p : Part → Bool) (hv : Sl partE w v xs) (hn : xs.length ≤ 1048576)
    (hp : Pred partE w g cb xs p) :
    Calls Tryz.prog 241 #[v, .func (.func g) #[] cb] w (Ret w (.int .i64 (idxF p xs))) := by
  obtain ⟨A, cap, rfl, hs⟩ := hv.part
  have eg : ∀ args w, (callFunc g args).run Tryz.prog w = .ok (.enter g args) w := hp.1
  have Hp := Lib.hid hp.2
  have Hs := Lib.hid hs
  clear hp hs hv
  go_enter Tryz.func241, Tryz.ntmps241
  go_wp2_with fail
  go_loopw [8] (fun k wr => ∃ j : Nat, j ≤ xs.length ∧ k = .int .i64 j ∧ Ext w wr ∧ Hid (∀ i (h : i < xs.length), i < j → p xs[i] = false)) (fun k _ => xs.length - (intOf k).toNat)
  case atStart => exact ⟨0, by omega, by simp, Ext.refl _, fun i _ h => by omega⟩
  case round =>
    obtain ⟨j, hj, rfl, hx, hno⟩ := hrel
    by_cases hlt : j < xs.length
    · obtain ⟨b, off, rfl, h0, h1⟩ := Hs.out j hlt
      have h0 := hx.cell h0
      have h1 := hx.cell h1
      go_wp2_with fail
      refine (Hp.out xs[j] (List.getElem_mem hlt) _ _ hx ⟨_, rfl, rfl⟩).mono ?_
      rintro e w1 ⟨rfl, hx1⟩
      cases hpj : p xs[j]
      · have Hpj := Lib.hid hpj
        clear hpj
        go_wp2_with fail
        go_roundw
        case rel => exact ⟨j + 1, by omega, by go_num, hx.trans hx1, fun i h hi => by
            by_cases e : i = j
            · subst e; exact Hpj.out
            · exact hno.out i h (by omega)⟩
        case measure => simp [intOf]; omega
      · have Hpj := Lib.hid hpj
        clear hpj
        go_wp2_with fail
        go_ret
        exact ⟨by rw [idxF_found hlt hno.out Hpj.out]; rfl, hx.trans hx1⟩
    · go_wp2_with fail
      go_ret
      exact ⟨by rw [idxF_none hlt hno.out]; rfl, hx⟩

set_option maxRecDepth 100000 in
theorem containsFunc_part (g : Nat) (cb : Array Value) (w : World) (v : Value) (xs : List Part) (p : Part → Bool) (hv : Sl partE w v xs) (hn : xs.length ≤ 1048576)
    (hp : Pred partE w g cb xs p) :
    Calls Tryz.prog 218 #[v, .func (.func g) #[] cb] w (Ret w (.bool (xs.any p))) := by
  have Hp := Lib.hid hp
  have Hv := Lib.hid hv
  have hc := indexFunc_part g cb w v xs p hv hn hp
  rw [← idxF_any]
  clear hp hv
  generalize idxF p xs = r at hc ⊢
  have Hc := Lib.hid hc
  clear hc
  go_enter Tryz.func218, Tryz.ntmps218
  go_wp2_with fail
  refine Hc.out.mono ?_
  rintro e w1 ⟨rfl, hx1⟩
  go_wp2_with fail
  go_ret
  exact ⟨rfl, hx1⟩

set_option maxRecDepth 100000 in
set_option maxHeartbeats 1000000 in
theorem indexFunc_over (g : Nat) (cb : Array Value) (w : World) (v : Value) (xs : List Over) (p : Over → Bool) (hv : Sl overE w v xs) (hn : xs.length ≤ 1048576)
    (hp : Pred overE w g cb xs p) :
    Calls Tryz.prog 244 #[v, .func (.func g) #[] cb] w (Ret w (.int .i64 (idxF p xs))) := by
  obtain ⟨A, cap, rfl, hs⟩ := hv.over
  have eg : ∀ args w, (callFunc g args).run Tryz.prog w = .ok (.enter g args) w := hp.1
  have Hp := Lib.hid hp.2
  have Hs := Lib.hid hs
  clear hp hs hv
  go_enter Tryz.func244, Tryz.ntmps244
  go_wp2_with fail
  go_loopw [8] (fun k wr => ∃ j : Nat, j ≤ xs.length ∧ k = .int .i64 j ∧ Ext w wr ∧ Hid (∀ i (h : i < xs.length), i < j → p xs[i] = false)) (fun k _ => xs.length - (intOf k).toNat)
  case atStart => exact ⟨0, by omega, by simp, Ext.refl _, fun i _ h => by omega⟩
  case round =>
    obtain ⟨j, hj, rfl, hx, hno⟩ := hrel
    by_cases hlt : j < xs.length
    · obtain ⟨b, off, rfl, h0, h1⟩ := Hs.out j hlt
      have h0 := hx.cell h0
      have h1 := hx.cell h1
      go_wp2_with fail
      refine (Hp.out xs[j] (List.getElem_mem hlt) _ _ hx ⟨_, rfl, rfl⟩).mono ?_
      rintro e w1 ⟨rfl, hx1⟩
      cases hpj : p xs[j]
      · have Hpj := Lib.hid hpj
        clear hpj
        go_wp2_with fail
        go_roundw
        case rel => exact ⟨j + 1, by omega, by go_num, hx.trans hx1, fun i h hi => by
            by_cases e : i = j
            · subst e; exact Hpj.out
            · exact hno.out i h (by omega)⟩
        case measure => simp [intOf]; omega
      · have Hpj := Lib.hid hpj
        clear hpj
        go_wp2_with fail
        go_ret
        exact ⟨by rw [idxF_found hlt hno.out Hpj.out]; rfl, hx.trans hx1⟩
    · go_wp2_with fail
      go_ret
      exact ⟨by rw [idxF_none hlt hno.out]; rfl, hx⟩

set_option maxRecDepth 100000 in
theorem containsFunc_over (g : Nat) (cb : Array Value) (w : World) (v : Value) (xs : List Over) (p : Over → Bool) (hv : Sl overE w v xs) (hn : xs.length ≤ 1048576)
    (hp : Pred overE w g cb xs p) :
    Calls Tryz.prog 227 #[v, .func (.func g) #[] cb] w (Ret w (.bool (xs.any p))) := by
  have Hp := Lib.hid hp
  have Hv := Lib.hid hv
  have hc := indexFunc_over g cb w v xs p hv hn hp
  rw [← idxF_any]
  clear hp hv
  generalize idxF p xs = r at hc ⊢
  have Hc := Lib.hid hc
  clear hc
  go_enter Tryz.func227, Tryz.ntmps227
  go_wp2_with fail
  refine Hc.out.mono ?_
  rintro e w1 ⟨rfl, hx1⟩
  go_wp2_with fail
  go_ret
  exact ⟨rfl, hx1⟩

set_option maxRecDepth 100000 in
set_option maxHeartbeats 1000000 in
theorem indexFunc_method (g : Nat) (cb : Array Value) (w : World) (v : Value) (xs : List Method) (p : Method → Bool) (hv : Sl methodE w v xs) (hn : xs.length ≤ 1048576)
    (hp : Pred methodE w g cb xs p) :
    Calls Tryz.prog 242 #[v, .func (.func g) #[] cb] w (Ret w (.int .i64 (idxF p xs))) := by
  obtain ⟨A, cap, rfl, hs⟩ := hv.method
  have eg : ∀ args w, (callFunc g args).run Tryz.prog w = .ok (.enter g args) w := hp.1
  have Hp := Lib.hid hp.2
  have Hs := Lib.hid hs
  clear hp hs hv
  go_enter Tryz.func242, Tryz.ntmps242
  go_wp2_with fail
  go_loopw [8] (fun k wr => ∃ j : Nat, j ≤ xs.length ∧ k = .int .i64 j ∧ Ext w wr ∧ Hid (∀ i (h : i < xs.length), i < j → p xs[i] = false)) (fun k _ => xs.length - (intOf k).toNat)
  case atStart => exact ⟨0, by omega, by simp, Ext.refl _, fun i _ h => by omega⟩
  case round =>
    obtain ⟨j, hj, rfl, hx, hno⟩ := hrel
    by_cases hlt : j < xs.length
    · obtain ⟨b, off, va, vr, rfl, hva, hvr, h0, h1, h2, h3, h4⟩ := Hs.out j hlt
      have h0 := hx.cell h0
      have h1 := hx.cell h1
      have h2 := hx.cell h2
      have h3 := hx.cell h3
      have h4 := hx.cell h4
      go_wp2_with fail
      refine (Hp.out xs[j] (List.getElem_mem hlt) _ _ hx ⟨_, ⟨va, vr, rfl, hva.mono hx, hvr.mono hx⟩, rfl⟩).mono ?_
      rintro e w1 ⟨rfl, hx1⟩
      cases hpj : p xs[j]
      · have Hpj := Lib.hid hpj
        clear hpj
        go_wp2_with fail
        go_roundw
        case rel => exact ⟨j + 1, by omega, by go_num, hx.trans hx1, fun i h hi => by
            by_cases e : i = j
            · subst e; exact Hpj.out
            · exact hno.out i h (by omega)⟩
        case measure => simp [intOf]; omega
      · have Hpj := Lib.hid hpj
        clear hpj
        go_wp2_with fail
        go_ret
        exact ⟨by rw [idxF_found hlt hno.out Hpj.out]; rfl, hx.trans hx1⟩
    · go_wp2_with fail
      go_ret
      exact ⟨by rw [idxF_none hlt hno.out]; rfl, hx⟩

set_option maxRecDepth 100000 in
theorem containsFunc_method (g : Nat) (cb : Array Value) (w : World) (v : Value) (xs : List Method) (p : Method → Bool) (hv : Sl methodE w v xs) (hn : xs.length ≤ 1048576)
    (hp : Pred methodE w g cb xs p) :
    Calls Tryz.prog 224 #[v, .func (.func g) #[] cb] w (Ret w (.bool (xs.any p))) := by
  have Hp := Lib.hid hp
  have Hv := Lib.hid hv
  have hc := indexFunc_method g cb w v xs p hv hn hp
  rw [← idxF_any]
  clear hp hv
  generalize idxF p xs = r at hc ⊢
  have Hc := Lib.hid hc
  clear hc
  go_enter Tryz.func224, Tryz.ntmps224
  go_wp2_with fail
  refine Hc.out.mono ?_
  rintro e w1 ⟨rfl, hx1⟩
  go_wp2_with fail
  go_ret
  exact ⟨rfl, hx1⟩
end Go.Proofs.YtldnjnnhfeobdaaGreatDoor
/- Contracts: IsName, isBrand, IsSymbol of the program and of the reference. Conditions: lengths below 2^20. -/
namespace Go.Proofs.YtldnjnnhfeobdaaGreatDoor
set_option linter.all false
set_option linter.unusedSimpArgs false
set_option linter.unusedVariables false
open Go.RowKit Go.Shelf

theorem bytesWorld_ext (w : World) (e : TypeId) (s : ByteArray) : Ext w (Lib.bytesWorld w e s) :=
  ⟨by simp [Lib.bytesWorld, World.freeze, World.alloc, World.drew, -World.alloc_eq, -World.drew_eq],
   by simp [Lib.bytesWorld, World.freeze, World.alloc, World.drew, -World.alloc_eq, -World.drew_eq],
   by simp [Lib.bytesWorld, World.freeze, World.alloc, World.drew, -World.alloc_eq, -World.drew_eq],
   by rw [Lib.bytesWorld_size]; omega, fun k hk => Lib.bytesWorld_at_old w e s k hk⟩

theorem bytesWorld_sl (w : World) (s : ByteArray) (cap : Nat) (hcap : s.size ≤ cap) : Sl byteE (Lib.bytesWorld w 5 s) (.slice (some ⟨w.heap.size, 0, none⟩) s.size cap) (byts s) := by
  refine ⟨_, cap, by rw [byts_length], fun i x hi => ⟨_, _, _, rfl, ⟨trivial, by rw [byts_length]; exact hcap⟩, rfl, fun j u hj => ?_⟩⟩
  have hlt : i < s.size := by
    have := (List.getElem?_eq_some_iff.1 hi).1
    rwa [byts_length] at this
  cases j with
  | zero =>
    simp at hj
    subst hj
    have h := Lib.bytesWorld_cell w 5 s i hlt
    rw [List.getElem?_eq_getElem (by rw [byts_length]; exact hlt)] at hi
    injection hi with hi
    rw [← hi, byts_get s i hlt]
    simp only [byteE, Nat.mul_one, Nat.add_zero, Nat.zero_add]
    rw [h]
    have hl : i < s.data.toList.length := by simpa using hlt
    rw [List.getD_eq_getElem?_getD, List.getElem?_eq_getElem hl]
    rfl
  | succ j => simp at hj

theorem isBrand1_any (n : Int) (w : World) :
    Calls Tryz.prog 240 #[.int .u8 n] w fun e w' => e = .returned (.bool (decide (n < 32 ∨ n > 126 ∨ n = 34))) ∧ w = w' := by
  by_cases h1 : n < 32 <;> by_cases h2 : 126 < n <;> by_cases h3 : n = 34
  all_goals (first | (exfalso; omega) | skip)
  all_goals
    go_enter Tryz.func240, Tryz.ntmps240
    go_wp2
    go_ret
    exact ⟨by first | (simp_all; done) | (simp_all; rw [Bool.eq_iff_iff]; simp; omega), rfl⟩

theorem pred_byte (w : World) (g : Nat) (xs : List Int) (p : Int → Bool) (hg : Enters Tryz.prog g)
    (h : ∀ (n : Int) (w : World), Calls Tryz.prog g #[.int .u8 n] w fun e w' => e = .returned (.bool (p n)) ∧ w = w') : Pred byteE w g #[] xs p := by
  refine ⟨hg, ?_⟩
  rintro x _ w' A _ ⟨cs, rfl, rfl⟩
  exact (h x w').mono fun e w'' ⟨he, hw⟩ => ⟨he, hw ▸ Ext.refl _⟩

set_option maxRecDepth 100000 in
set_option maxHeartbeats 1000000 in
theorem isName_any (s : ByteArray) (w : World) (hs : s.size ≤ 1048576) : Calls Tryz.prog 27 #[.string s] w (Ret w (.bool (isNameB s))) := by
  have hcv := fun (w : World) => Lib.run_convert_string_bytes (P := Tryz.prog) w 9 100 5 s Tryz.underlying9 Tryz.underlying100 Tryz.underlying5
  have hl := byts_length s
  have hh := byts_head s
  unfold isNameB isNameL
  cases hr : inB (byts s).length 1 12
  · rw [hl] at hr
    have Hr := Lib.hid hr
    clear hr hl hh
    go_enter Tryz.func27, Tryz.ntmps27
    go_wp2_with fail
    refine (in_any _ _ _ _).mono ?_
    rintro e w' ⟨rfl, rfl⟩
    rw [Hr.out]
    go_wp2_with fail
    go_ret
    exact ⟨rfl, Ext.refl _⟩
  · rw [hl] at hr
    have hpos : 0 < s.size := by simp [inB] at hr; omega
    have hh := hh hpos
    have Hr := Lib.hid hr
    rw [hh]
    clear hr hl
    cases hlt : isLetterB (s[0].toNat : Int)
    · have Ht := Lib.hid hlt
      clear hlt hh
      go_enter Tryz.func27, Tryz.ntmps27
      go_wp2_with fail
      refine (in_any _ _ _ _).mono ?_
      rintro e w' ⟨rfl, rfl⟩
      rw [Hr.out]
      go_wp2_with fail
      refine (isLetter_any _ _).mono ?_
      rintro e w' ⟨rfl, rfl⟩
      rw [Ht.out]
      go_wp2_with fail
      go_ret
      exact ⟨rfl, Ext.refl _⟩
    · have Ht := Lib.hid hlt
      clear hlt hh
      have hp := fun w => containsFunc_byte 67 #[] _ _ _ notNameB (bytesWorld_sl w s (grownCap w s.size 0 5) (grownCap_ge _ _ _ _)) (by rw [byts_length]; exact hs) (pred_byte _ _ _ _ (enters_of Tryz.func67 (by kernel_rfl) rfl) isName1_any)
      generalize (byts s).any notNameB = r at hp ⊢
      have Hp := Lib.hid hp
      clear hp
      go_enter Tryz.func27, Tryz.ntmps27
      go_wp2_with fail
      refine (in_any _ _ _ _).mono ?_
      rintro e w' ⟨rfl, rfl⟩
      rw [Hr.out]
      go_wp2_with fail
      refine (isLetter_any _ _).mono ?_
      rintro e w' ⟨rfl, rfl⟩
      rw [Ht.out]
      go_wp2_with fail
      refine (Hp.out _).mono ?_
      rintro e w1 ⟨rfl, hx1⟩
      go_wp2_with fail
      go_ret
      exact ⟨by simp, (bytesWorld_ext _ _ _).trans hx1⟩

def isBrandB (s : ByteArray) : Bool := decide (s.size ≤ 20) && !(byts s).any fun n => decide (n < 32 ∨ n > 126 ∨ n = 34)

set_option maxRecDepth 100000 in
set_option maxHeartbeats 1000000 in
theorem isBrand_any (s : ByteArray) (w : World) (hs : s.size ≤ 1048576) : Calls Tryz.prog 217 #[.string s] w (Ret w (.bool (isBrandB s))) := by
  have hcv := fun (w : World) => Lib.run_convert_string_bytes (P := Tryz.prog) w 9 100 5 s Tryz.underlying9 Tryz.underlying100 Tryz.underlying5
  unfold isBrandB
  by_cases h20 : s.size ≤ 20
  · have hp := fun w => containsFunc_byte 240 #[] _ _ _ _ (bytesWorld_sl w s (grownCap w s.size 0 5) (grownCap_ge _ _ _ _)) (by rw [byts_length]; exact hs) (pred_byte _ _ _ _ (enters_of Tryz.func240 (by kernel_rfl) rfl) isBrand1_any)
    generalize ((byts s).any fun n => decide (n < 32 ∨ n > 126 ∨ n = 34)) = r at hp ⊢
    have Hp := Lib.hid hp
    clear hp
    go_enter Tryz.func217, Tryz.ntmps217
    go_wp2_with fail
    refine (Hp.out _).mono ?_
    rintro e w1 ⟨rfl, hx1⟩
    go_wp2_with fail
    go_ret
    exact ⟨by simp [h20], (bytesWorld_ext _ _ _).trans hx1⟩
  · go_enter Tryz.func217, Tryz.ntmps217
    go_wp2_with fail
    go_ret
    exact ⟨by simp [h20], Ext.refl _⟩
end Go.Proofs.YtldnjnnhfeobdaaGreatDoor
/- Contracts: slices.EqualFunc and slices.Equal at the types that are used. Conditions: lengths below 2^20. -/
namespace Go.Proofs.YtldnjnnhfeobdaaGreatDoor
set_option linter.all false
set_option linter.unusedSimpArgs false
set_option linter.unusedVariables false
open Go.RowKit Go.Shelf

/-- a function value that answers p at each two of xs and ys -/
def Pred2 {α : Type} (E : Elt α) (w : World) (g : Nat) (cb : Array Value) (xs ys : List α) (p : α → α → Bool) : Prop :=
  Enters Tryz.prog g ∧ ∀ x ∈ xs, ∀ y ∈ ys, ∀ w' A B, Ext w w' → Arg E w' x A → Arg E w' y B → Calls Tryz.prog g (#[A, B] ++ cb) w' (Ret w' (.bool (p x y)))
theorem Pred2.mono {α : Type} {E : Elt α} {w w1 : World} {g : Nat} {cb : Array Value} {xs ys : List α} {p : α → α → Bool} (h : Pred2 E w g cb xs ys p) (hx : Ext w w1) : Pred2 E w1 g cb xs ys p :=
  ⟨h.1, fun x hm y hy w' A B hx' ha hb => h.2 x hm y hy w' A B (hx.trans hx') ha hb⟩
def eqF {α : Type} (p : α → α → Bool) : List α → List α → Bool
  | [], [] => true
  | x :: xs, y :: ys => p x y && eqF p xs ys
  | _, _ => false
theorem eqF_len {α : Type} {p : α → α → Bool} {xs ys : List α} (h : ¬ xs.length = ys.length) : eqF p xs ys = false := by
  induction xs generalizing ys with
  | nil => cases ys with
    | nil => simp at h
    | cons y ys => rfl
  | cons x xs ih => cases ys with
    | nil => rfl
    | cons y ys => simp only [eqF]; rw [ih (by simpa using h)]; simp
theorem eqF_no {α : Type} {p : α → α → Bool} {xs ys : List α} {j : Nat} (h1 : j < xs.length) (h2 : j < ys.length) (hp : p xs[j] ys[j] = false) : eqF p xs ys = false := by
  induction xs generalizing ys j with
  | nil => simp at h1
  | cons x xs ih => cases ys with
    | nil => rfl
    | cons y ys =>
      cases j with
      | zero => simp only [eqF]; simp at hp; rw [hp]; rfl
      | succ j => simp only [eqF]; rw [ih (j := j) (by simpa using h1) (by simpa using h2) (by simpa using hp)]; simp
theorem eqF_yes {α : Type} {p : α → α → Bool} {xs ys : List α} {j : Nat} (hl : xs.length = ys.length) (hj : ¬ j < xs.length) (h : ∀ i (h1 : i < xs.length) (h2 : i < ys.length), i < j → p xs[i] ys[i] = true) : eqF p xs ys = true := by
  have h : ∀ i (h1 : i < xs.length) (h2 : i < ys.length), p xs[i] ys[i] = true := fun i h1 h2 => h i h1 h2 (by omega)
  clear hj
  rename_i h0
  clear h0
  induction xs generalizing ys with
  | nil => cases ys with
    | nil => rfl
    | cons y ys => simp at hl
  | cons x xs ih => cases ys with
    | nil => simp at hl
    | cons y ys =>
      simp only [eqF]
      have h0 := h 0 (by simp) (by simp)
      simp at h0
      rw [h0, ih (by simpa using hl) (fun i h1 h2 => by have := h (i + 1) (by simpa using h1) (by simpa using h2); simpa using this)]
      rfl

set_option maxRecDepth 100000 in
set_option maxHeartbeats 2000000 in
theorem equalFunc_part (g : Nat) (cb : Array Value) (w : World) (v u : Value) (xs ys : List Part) (p : Part → Part → Bool) (hv : Sl partE w v xs) (hu : Sl partE w u ys) (hn : xs.length ≤ 1048576) (hm : ys.length ≤ 1048576)
    (hp : Pred2 partE w g cb xs ys p) :
    Calls Tryz.prog 104 #[v, u, .func (.func g) #[] cb] w (Ret w (.bool (eqF p xs ys))) := by
  obtain ⟨A, cap, rfl, hs⟩ := hv.part
  obtain ⟨B, cbp, rfl, ht⟩ := hu.part
  have eg : ∀ args w, (callFunc g args).run Tryz.prog w = .ok (.enter g args) w := hp.1
  have Hp := Lib.hid hp.2
  have Hs := Lib.hid hs
  have Ht := Lib.hid ht
  clear hp hs hv ht hu
  by_cases hl : xs.length = ys.length
  · have Hl := Lib.hid hl
    have hb : ((xs.length : Int) != (ys.length : Int)) = false := by simp [hl]
    have hle : xs.length ≤ ys.length := by omega
    clear hl
    go_enter Tryz.func104, Tryz.ntmps104
    go_wp2_with fail
    go_loopw [17] (fun k wr => ∃ j : Nat, j ≤ xs.length ∧ k = .int .i64 j ∧ Ext w wr ∧ Hid (∀ i (h : i < xs.length) (h' : i < ys.length), i < j → p xs[i] ys[i] = true)) (fun k _ => xs.length - (intOf k).toNat)
    case atStart => exact ⟨0, by omega, by simp, Ext.refl _, fun i _ _ h => by omega⟩
    case round =>
      obtain ⟨j, hj, rfl, hx, hno⟩ := hrel
      by_cases hlt : j < xs.length
      · have hlt' : j < ys.length := by omega
        obtain ⟨b, off, rfl, h0, h1⟩ := Hs.out j hlt
        obtain ⟨c, off2, rfl, g0, g1⟩ := Ht.out j hlt'
        have hb1 := cell_lt (hx.cell h0)
        have hb2 := cell_lt (hx.cell g0)
        have h0 := hx.cell h0
        have h1 := hx.cell h1
        have g0 := hx.cell g0
        have g1 := hx.cell g1
        go_wp2_with fail
        refine (Hp.out xs[j] (List.getElem_mem hlt) ys[j] (List.getElem_mem hlt') _ _ _ ((hx.alloc _).alloc _) ⟨_, rfl, rfl⟩ ⟨_, rfl, rfl⟩).mono ?_
        rintro e w1 ⟨rfl, hx1⟩
        have hx2 := ((hx.alloc _).alloc _).trans hx1
        clear hx1
        cases hpj : p xs[j] ys[j]
        · have Hpj := Lib.hid hpj
          clear hpj
          go_wp2_with fail
          go_ret
          exact ⟨by rw [eqF_no hlt hlt' Hpj.out]; rfl, hx2⟩
        · have Hpj := Lib.hid hpj
          clear hpj
          go_wp2_with fail
          go_roundw
          case rel => exact ⟨j + 1, by omega, by go_num, hx2, fun i h h' hi => by
              by_cases e : i = j
              · subst e; exact Hpj.out
              · exact hno.out i h h' (by omega)⟩
          case measure => simp [intOf]; omega
      · go_wp2_with fail
        go_ret
        exact ⟨by rw [eqF_yes Hl.out hlt hno.out]; rfl, hx⟩
  · have Hl := Lib.hid hl
    have hb : ((xs.length : Int) != (ys.length : Int)) = true := by simp; omega
    clear hl
    go_enter Tryz.func104, Tryz.ntmps104
    go_wp2_with fail
    go_ret
    exact ⟨by rw [eqF_len Hl.out]; rfl, Ext.refl _⟩

set_option maxRecDepth 100000 in
set_option maxHeartbeats 2000000 in
theorem equalFunc_method (g : Nat) (cb : Array Value) (w : World) (v u : Value) (xs ys : List Method) (p : Method → Method → Bool) (hv : Sl methodE w v xs) (hu : Sl methodE w u ys) (hn : xs.length ≤ 1048576) (hm : ys.length ≤ 1048576)
    (hp : Pred2 methodE w g cb xs ys p) :
    Calls Tryz.prog 83 #[v, u, .func (.func g) #[] cb] w (Ret w (.bool (eqF p xs ys))) := by
  obtain ⟨A, cap, rfl, hs⟩ := hv.method
  obtain ⟨B, cbp, rfl, ht⟩ := hu.method
  have eg : ∀ args w, (callFunc g args).run Tryz.prog w = .ok (.enter g args) w := hp.1
  have Hp := Lib.hid hp.2
  have Hs := Lib.hid hs
  have Ht := Lib.hid ht
  clear hp hs hv ht hu
  by_cases hl : xs.length = ys.length
  · have Hl := Lib.hid hl
    have hb : ((xs.length : Int) != (ys.length : Int)) = false := by simp [hl]
    have hle : xs.length ≤ ys.length := by omega
    clear hl
    go_enter Tryz.func83, Tryz.ntmps83
    go_wp2_with fail
    go_loopw [17] (fun k wr => ∃ j : Nat, j ≤ xs.length ∧ k = .int .i64 j ∧ Ext w wr ∧ Hid (∀ i (h : i < xs.length) (h' : i < ys.length), i < j → p xs[i] ys[i] = true)) (fun k _ => xs.length - (intOf k).toNat)
    case atStart => exact ⟨0, by omega, by simp, Ext.refl _, fun i _ _ h => by omega⟩
    case round =>
      obtain ⟨j, hj, rfl, hx, hno⟩ := hrel
      by_cases hlt : j < xs.length
      · have hlt' : j < ys.length := by omega
        obtain ⟨b, off, va, vr, rfl, hva, hvr, h0, h1, h2, h3, h4⟩ := Hs.out j hlt
        obtain ⟨c, off2, ua, ur, rfl, ga, gr, g0, g1, g2, g3, g4⟩ := Ht.out j hlt'
        obtain ⟨va1, va2, rfl⟩ := hva.len
        obtain ⟨vr1, vr2, rfl⟩ := hvr.len
        obtain ⟨ua1, ua2, rfl⟩ := ga.len
        obtain ⟨ur1, ur2, rfl⟩ := gr.len
        have hb1 := cell_lt (hx.cell h0)
        have hb2 := cell_lt (hx.cell g0)
        have h0 := hx.cell h0
        have h1 := hx.cell h1
        have h2 := hx.cell h2
        have h3 := hx.cell h3
        have h4 := hx.cell h4
        have g0 := hx.cell g0
        have g1 := hx.cell g1
        have g2 := hx.cell g2
        have g3 := hx.cell g3
        have g4 := hx.cell g4
        go_wp2_with fail
        refine (Hp.out xs[j] (List.getElem_mem hlt) ys[j] (List.getElem_mem hlt') _ _ _ ((hx.alloc _).alloc _) ⟨_, ⟨_, _, rfl, hva.mono ((hx.alloc _).alloc _), hvr.mono ((hx.alloc _).alloc _)⟩, rfl⟩ ⟨_, ⟨_, _, rfl, ga.mono ((hx.alloc _).alloc _), gr.mono ((hx.alloc _).alloc _)⟩, rfl⟩).mono ?_
        rintro e w1 ⟨rfl, hx1⟩
        have hx2 := ((hx.alloc _).alloc _).trans hx1
        clear hx1
        cases hpj : p xs[j] ys[j]
        · have Hpj := Lib.hid hpj
          clear hpj
          go_wp2_with fail
          go_ret
          exact ⟨by rw [eqF_no hlt hlt' Hpj.out]; rfl, hx2⟩
        · have Hpj := Lib.hid hpj
          clear hpj
          go_wp2_with fail
          go_roundw
          case rel => exact ⟨j + 1, by omega, by go_num, hx2, fun i h h' hi => by
              by_cases e : i = j
              · subst e; exact Hpj.out
              · exact hno.out i h h' (by omega)⟩
          case measure => simp [intOf]; omega
      · go_wp2_with fail
        go_ret
        exact ⟨by rw [eqF_yes Hl.out hlt hno.out]; rfl, hx⟩
  · have Hl := Lib.hid hl
    have hb : ((xs.length : Int) != (ys.length : Int)) = true := by simp; omega
    clear hl
    go_enter Tryz.func83, Tryz.ntmps83
    go_wp2_with fail
    go_ret
    exact ⟨by rw [eqF_len Hl.out]; rfl, Ext.refl _⟩

set_option maxRecDepth 100000 in
set_option maxHeartbeats 2000000 in
theorem equal_int (w : World) (v u : Value) (xs ys : List Int) (hv : Sl intE w v xs) (hu : Sl intE w u ys) (hn : xs.length ≤ 1048576) (hm : ys.length ≤ 1048576) :
    Calls Tryz.prog 80 #[v, u] w (Ret w (.bool (eqF (fun x y => x == y) xs ys))) := by
  obtain ⟨A, cap, rfl, hs⟩ := hv.int
  obtain ⟨B, cbp, rfl, ht⟩ := hu.int
  have Hs := Lib.hid hs
  have Ht := Lib.hid ht
  clear hs hv ht hu
  by_cases hl : xs.length = ys.length
  · have Hl := Lib.hid hl
    have hb : ((xs.length : Int) != (ys.length : Int)) = false := by simp [hl]
    have hle : xs.length ≤ ys.length := by omega
    clear hl
    go_enter Tryz.func80, Tryz.ntmps80
    go_wp2_with fail
    go_loopw [13] (fun k wr => ∃ j : Nat, j ≤ xs.length ∧ k = .int .i64 j ∧ Ext w wr ∧ Hid (∀ i (h : i < xs.length) (h' : i < ys.length), i < j → (fun (x y : Int) => x == y) xs[i] ys[i] = true)) (fun k _ => xs.length - (intOf k).toNat)
    case atStart => exact ⟨0, by omega, by simp, Ext.refl _, fun i _ _ h => by omega⟩
    case round =>
      obtain ⟨j, hj, rfl, hx, hno⟩ := hrel
      by_cases hlt : j < xs.length
      · have hlt' : j < ys.length := by omega
        obtain ⟨b, off, rfl, h0⟩ := Hs.out j hlt
        obtain ⟨c, off2, rfl, g0⟩ := Ht.out j hlt'
        have hb1 := cell_lt (hx.cell h0)
        have hb2 := cell_lt (hx.cell g0)
        have h0 := hx.cell h0
        have g0 := hx.cell g0
        have i0 : (0 : Int) ≤ (j : Int) := by omega
        have i1 : (j : Int) < (xs.length : Int) := by omega
        have i2 : (j : Int) < (ys.length : Int) := by omega
        have Hpj : Hid (∀ b, (fun (x y : Int) => x == y) xs[j] ys[j] = b → (fun (x y : Int) => x == y) xs[j] ys[j] = b) := fun b h => h
        cases hpj : (fun (x y : Int) => x == y) xs[j] ys[j]
        · have Hpj := Lib.hid hpj
          have hpj1 : ((xs[j] : Int) != ys[j]) = true := by simpa using hpj
          clear hpj
          go_wp2_with fail
          go_quiet (fail)
          go_wp2_with fail
          go_ret
          exact ⟨by rw [eqF_no hlt hlt' Hpj.out]; rfl, hx.drewN _⟩
        · have Hpj := Lib.hid hpj
          have hpj1 : ((xs[j] : Int) != ys[j]) = false := by simpa using hpj
          clear hpj
          go_wp2_with fail
          go_quiet (fail)
          go_wp2_with fail
          go_roundw
          case rel => exact ⟨j + 1, by omega, by go_num, hx.drewN _, fun i h h' hi => by
              by_cases e : i = j
              · subst e; exact Hpj.out
              · exact hno.out i h h' (by omega)⟩
          case measure => simp [intOf]; omega
      · go_wp2_with fail
        go_ret
        exact ⟨by rw [eqF_yes Hl.out hlt hno.out]; rfl, hx⟩
  · have Hl := Lib.hid hl
    have hb : ((xs.length : Int) != (ys.length : Int)) = true := by simp; omega
    clear hl
    go_enter Tryz.func80, Tryz.ntmps80
    go_wp2_with fail
    go_ret
    exact ⟨by rw [eqF_len Hl.out]; rfl, Ext.refl _⟩

set_option maxRecDepth 100000 in
set_option maxHeartbeats 2000000 in
theorem equal_str (w : World) (v u : Value) (xs ys : List ByteArray) (hv : Sl strE w v xs) (hu : Sl strE w u ys) (hn : xs.length ≤ 1048576) (hm : ys.length ≤ 1048576) :
    Calls Tryz.prog 81 #[v, u] w (Ret w (.bool (eqF (fun x y => x.toList == y.toList) xs ys))) := by
  obtain ⟨A, cap, rfl, hs⟩ := hv.str
  obtain ⟨B, cbp, rfl, ht⟩ := hu.str
  have Hs := Lib.hid hs
  have Ht := Lib.hid ht
  clear hs hv ht hu
  by_cases hl : xs.length = ys.length
  · have Hl := Lib.hid hl
    have hb : ((xs.length : Int) != (ys.length : Int)) = false := by simp [hl]
    have hle : xs.length ≤ ys.length := by omega
    clear hl
    go_enter Tryz.func81, Tryz.ntmps81
    go_wp2_with fail
    go_loopw [13] (fun k wr => ∃ j : Nat, j ≤ xs.length ∧ k = .int .i64 j ∧ Ext w wr ∧ Hid (∀ i (h : i < xs.length) (h' : i < ys.length), i < j → (fun (x y : ByteArray) => x.toList == y.toList) xs[i] ys[i] = true)) (fun k _ => xs.length - (intOf k).toNat)
    case atStart => exact ⟨0, by omega, by simp, Ext.refl _, fun i _ _ h => by omega⟩
    case round =>
      obtain ⟨j, hj, rfl, hx, hno⟩ := hrel
      by_cases hlt : j < xs.length
      · have hlt' : j < ys.length := by omega
        obtain ⟨b, off, rfl, h0⟩ := Hs.out j hlt
        obtain ⟨c, off2, rfl, g0⟩ := Ht.out j hlt'
        have hb1 := cell_lt (hx.cell h0)
        have hb2 := cell_lt (hx.cell g0)
        have h0 := hx.cell h0
        have g0 := hx.cell g0
        have i0 : (0 : Int) ≤ (j : Int) := by omega
        have i1 : (j : Int) < (xs.length : Int) := by omega
        have i2 : (j : Int) < (ys.length : Int) := by omega
        have Hpj : Hid (∀ b, (fun (x y : ByteArray) => x.toList == y.toList) xs[j] ys[j] = b → (fun (x y : ByteArray) => x.toList == y.toList) xs[j] ys[j] = b) := fun b h => h
        cases hpj : (fun (x y : ByteArray) => x.toList == y.toList) xs[j] ys[j]
        · have Hpj := Lib.hid hpj
          have hpj1 : ((xs[j]).toList == (ys[j]).toList) = false := hpj
          clear hpj
          go_wp2_with fail
          go_quiet (fail)
          go_wp2_with fail
          go_ret
          exact ⟨by rw [eqF_no hlt hlt' Hpj.out]; rfl, hx.drewN _⟩
        · have Hpj := Lib.hid hpj
          have hpj1 : ((xs[j]).toList == (ys[j]).toList) = true := hpj
          clear hpj
          go_wp2_with fail
          go_quiet (fail)
          go_wp2_with fail
          go_roundw
          case rel => exact ⟨j + 1, by omega, by go_num, hx.drewN _, fun i h h' hi => by
              by_cases e : i = j
              · subst e; exact Hpj.out
              · exact hno.out i h h' (by omega)⟩
          case measure => simp [intOf]; omega
      · go_wp2_with fail
        go_ret
        exact ⟨by rw [eqF_yes Hl.out hlt hno.out]; rfl, hx⟩
  · have Hl := Lib.hid hl
    have hb : ((xs.length : Int) != (ys.length : Int)) = true := by simp; omega
    clear hl
    go_enter Tryz.func81, Tryz.ntmps81
    go_wp2_with fail
    go_ret
    exact ⟨by rw [eqF_len Hl.out]; rfl, Ext.refl _⟩
end Go.Proofs.YtldnjnnhfeobdaaGreatDoor
/- Contracts: turned (a list, each element turned) at the types that are used. Conditions: lengths below 2^20. -/
namespace Go.Proofs.YtldnjnnhfeobdaaGreatDoor
set_option linter.all false
set_option linter.unusedSimpArgs false
set_option linter.unusedVariables false
open Go.RowKit Go.Shelf

/-- blocks that are laid from w on -/
def New (w : World) : Nat → Prop := fun b => w.heap.size ≤ b
theorem New.mono {w w' : World} (h : w.heap.size ≤ w'.heap.size) {b : Nat} (hb : New w' b) : New w b := Nat.le_trans h hb
/-- a result that lies in new memory -/
def Res {β : Type} (U : Elt β) (w : World) (y : β) (w' : World) (v : Value) : Prop := ∃ cs, U.rel (New w) w' y cs ∧ v = pack cs
/-- a function value that turns each x of xs to f x, in new memory -/
def MapP {α β : Type} (E : Elt α) (U : Elt β) (w : World) (g : Nat) (cb : Array Value) (xs : List α) (f : α → β) : Prop :=
  Enters Tryz.prog g ∧ ∀ x ∈ xs, ∀ w' A, Ext w w' → Arg E w' x A → Calls Tryz.prog g (#[A] ++ cb) w' (RetP w' (Res U w' (f x)))
theorem MapP.mono {α β : Type} {E : Elt α} {U : Elt β} {w w1 : World} {g : Nat} {cb : Array Value} {xs : List α} {f : α → β} (h : MapP E U w g cb xs f) (hx : Ext w w1) : MapP E U w1 g cb xs f :=
  ⟨h.1, fun x hm w' A hx' ha => h.2 x hm w' A (hx.trans hx') ha⟩
theorem take_map_snoc {α β : Type} (f : α → β) (xs : List α) (j : Nat) (h : j < xs.length) : (xs.map f).take (j + 1) = (xs.map f).take j ++ [f xs[j]] := by
  rw [List.take_succ_eq_append_getElem (by simpa using h)]; simp
theorem slice24 : SliceOf Tryz.prog 24 3 1 8 := .mk' Tryz.underlying24 (by kernel_rfl)
theorem slice70 : SliceOf Tryz.prog 70 9 1 16 := .mk' Tryz.underlying70 (by kernel_rfl)
theorem slice38 : SliceOf Tryz.prog 38 95 2 24 := .mk' Tryz.underlying38 (by kernel_rfl)
theorem slice39 : SliceOf Tryz.prog 39 74 5 88 := .mk' Tryz.underlying39 (by kernel_rfl)
theorem slice22 : SliceOf Tryz.prog 22 42 10 144 := .mk' Tryz.underlying22 (by kernel_rfl)
theorem slice40 : SliceOf Tryz.prog 40 117 2 32 := .mk' Tryz.underlying40 (by kernel_rfl)

set_option maxRecDepth 100000 in
set_option maxHeartbeats 2000000 in
theorem turned_int_int (g : Nat) (cb : Array Value) (w : World) (v : Value) (xs : List Int) (f : Int → Int) (hv : Sl intE w v xs) (hn : xs.length ≤ 1048576)
    (hp : MapP intE intE w g cb xs f) :
    Calls Tryz.prog 73 #[v, .func (.func g) #[] cb] w (RetP w (fun w' u => SlF (New w) intE w' u (xs.map f))) := by
  obtain ⟨A, cap, rfl, hs⟩ := hv.int
  have eg : ∀ args w, (callFunc g args).run Tryz.prog w = .ok (.enter g args) w := hp.1
  have Hp := Lib.hid hp.2
  have Hs := Lib.hid hs
  clear hp hs hv
  go_enter Tryz.func73, Tryz.ntmps73
  go_wp2_with fail
  go_loopw [5, 10] (fun o k wr => ∃ j : Nat, j ≤ xs.length ∧ k = .int .i64 j ∧ Ext w wr ∧ Own (New w) intE wr w.heap.size 3 o ((xs.map f).take j)) (fun _ k _ => xs.length - (intOf k).toNat)
  case atStart => exact ⟨0, by omega, by simp, Ext.refl _, Own.nil _ _ _ _ _⟩
  case round =>
    obtain ⟨j, hj, rfl, hx, hown⟩ := hrel
    by_cases hlt : j < xs.length
    · obtain ⟨b, off, rfl, h0⟩ := Hs.out j hlt
      have h0 := hx.cell h0
      have Hown := Lib.hid hown
      clear hown
      go_wp2_with fail
      refine (Hp.out xs[j] (List.getElem_mem hlt) _ _ hx ⟨_, rfl, rfl⟩).mono ?_
      rintro e w1 ⟨v1, rfl, ⟨cs, hrel, rfl⟩, hx1⟩
      have hx2 := (hx).trans hx1
      have hown1 : Own (New w) intE w1 w.heap.size 3 u5 ((xs.map f).take j) := Hown.out.kept (Ext.trans (Ext.refl _) hx1)
      have Hlt : ∀ k, u5.ownBlock = some k → k < wr.heap.size := fun k hk => (Hown.out.lt k hk).2
      have Hrel : Hid (intE.rel (fun b => New w b ∧ some b ≠ u5.ownBlock) w1 (f xs[j]) cs) := intE.mono _ _ _ _ _ _ (fun _ _ _ => rfl) (fun b hb _ => ⟨New.mono (Ext.size hx) hb, fun e => by have h1 := Hlt b e.symm; have h2 : _ ≤ b := hb; (try simp at h2); omega⟩) hrel
      obtain rfl : cs = _ := hrel
      have Hown1 := Lib.hid hown1
      have Hx2 := Lib.hid hx2
      have hsz := hx2.size
      clear hown1 Hown hx1 hx2 Hlt
      simp only [pack]
      go_wp2_with (at_builtin; refine own_append intE w.heap.size rfl _ _ 24 3 8 rfl slice24 _ _ (f xs[j]) _ rfl rfl Hown1.out Hrel.out ?c1 ?c2 ?c3 ?_)
      case c1 => exact hsz
      case c2 => simp; omega
      case c3 => decide
      intro v2 w2 hown2 hg2
      have hown2 : Own (New w) intE w2 w.heap.size 3 v2 ((xs.map f).take (j + 1)) := by rw [take_map_snoc f xs j hlt]; exact hown2
      have hx3 : Ext w w2 := Below.grown Hx2.out hg2 hsz (fun k hk => (Hown1.out.lt k hk).1)
      clear hg2 Hown1 Hx2 Hrel
      go_wp2_with fail
      go_roundw
      case rel => exact ⟨j + 1, by omega, by go_num, hx3, hown2⟩
      case measure => simp [intOf]; omega
    · go_wp2_with fail
      go_ret
      refine ⟨_, rfl, ?_, hx⟩
      have : (xs.map f).take j = xs.map f := List.take_of_length_le (by simp; omega)
      rw [this] at hown
      exact hown.sl (fun b hb => hb)

set_option maxRecDepth 100000 in
set_option maxHeartbeats 2000000 in
theorem turned_part_str (g : Nat) (cb : Array Value) (w : World) (v : Value) (xs : List Part) (f : Part → ByteArray) (hv : Sl partE w v xs) (hn : xs.length ≤ 1048576)
    (hp : MapP partE strE w g cb xs f) :
    Calls Tryz.prog 192 #[v, .func (.func g) #[] cb] w (RetP w (fun w' u => SlF (New w) strE w' u (xs.map f))) := by
  obtain ⟨A, cap, rfl, hs⟩ := hv.part
  have eg : ∀ args w, (callFunc g args).run Tryz.prog w = .ok (.enter g args) w := hp.1
  have Hp := Lib.hid hp.2
  have Hs := Lib.hid hs
  clear hp hs hv
  go_enter Tryz.func192, Tryz.ntmps192
  go_wp2_with fail
  go_loopw [5, 10] (fun o k wr => ∃ j : Nat, j ≤ xs.length ∧ k = .int .i64 j ∧ Ext w wr ∧ Own (New w) strE wr w.heap.size 9 o ((xs.map f).take j)) (fun _ k _ => xs.length - (intOf k).toNat)
  case atStart => exact ⟨0, by omega, by simp, Ext.refl _, Own.nil _ _ _ _ _⟩
  case round =>
    obtain ⟨j, hj, rfl, hx, hown⟩ := hrel
    by_cases hlt : j < xs.length
    · obtain ⟨b, off, rfl, h0, h1⟩ := Hs.out j hlt
      have h0 := hx.cell h0
      have h1 := hx.cell h1
      have hb1 := cell_lt h0
      have Hown := Lib.hid hown
      clear hown
      go_wp2_with fail
      refine (Hp.out xs[j] (List.getElem_mem hlt) _ _ (hx.alloc _) ⟨_, rfl, rfl⟩).mono ?_
      rintro e w1 ⟨v1, rfl, ⟨cs, hrel, rfl⟩, hx1⟩
      have hx2 := ((hx.alloc _)).trans hx1
      have hown1 : Own (New w) strE w1 w.heap.size 9 u5 ((xs.map f).take j) := Hown.out.kept (Ext.trans ((Ext.refl wr).alloc _) hx1)
      have Hlt : ∀ k, u5.ownBlock = some k → k < wr.heap.size := fun k hk => (Hown.out.lt k hk).2
      have Hrel : Hid (strE.rel (fun b => New w b ∧ some b ≠ u5.ownBlock) w1 (f xs[j]) cs) := strE.mono _ _ _ _ _ _ (fun _ _ _ => rfl) (fun b hb _ => ⟨New.mono (Ext.size (hx.alloc _)) hb, fun e => by have h1 := Hlt b e.symm; have h2 : _ ≤ b := hb; (try simp at h2); omega⟩) hrel
      obtain rfl : cs = _ := hrel
      have Hown1 := Lib.hid hown1
      have Hx2 := Lib.hid hx2
      have hsz := hx2.size
      clear hown1 Hown hx1 hx2 Hlt
      simp only [pack]
      go_wp2_with (at_builtin; refine own_append strE w.heap.size rfl _ _ 70 9 16 rfl slice70 _ _ (f xs[j]) _ rfl rfl Hown1.out Hrel.out ?c1 ?c2 ?c3 ?_)
      case c1 => exact hsz
      case c2 => simp; omega
      case c3 => decide
      intro v2 w2 hown2 hg2
      have hown2 : Own (New w) strE w2 w.heap.size 9 v2 ((xs.map f).take (j + 1)) := by rw [take_map_snoc f xs j hlt]; exact hown2
      have hx3 : Ext w w2 := Below.grown Hx2.out hg2 hsz (fun k hk => (Hown1.out.lt k hk).1)
      clear hg2 Hown1 Hx2 Hrel
      go_wp2_with fail
      go_roundw
      case rel => exact ⟨j + 1, by omega, by go_num, hx3, hown2⟩
      case measure => simp [intOf]; omega
    · go_wp2_with fail
      go_ret
      refine ⟨_, rfl, ?_, hx⟩
      have : (xs.map f).take j = xs.map f := List.take_of_length_le (by simp; omega)
      rw [this] at hown
      exact hown.sl (fun b hb => hb)

set_option maxRecDepth 100000 in
set_option maxHeartbeats 2000000 in
theorem turned_method_str (g : Nat) (cb : Array Value) (w : World) (v : Value) (xs : List Method) (f : Method → ByteArray) (hv : Sl methodE w v xs) (hn : xs.length ≤ 1048576)
    (hp : MapP methodE strE w g cb xs f) :
    Calls Tryz.prog 220 #[v, .func (.func g) #[] cb] w (RetP w (fun w' u => SlF (New w) strE w' u (xs.map f))) := by
  obtain ⟨A, cap, rfl, hs⟩ := hv.method
  have eg : ∀ args w, (callFunc g args).run Tryz.prog w = .ok (.enter g args) w := hp.1
  have Hp := Lib.hid hp.2
  have Hs := Lib.hid hs
  clear hp hs hv
  go_enter Tryz.func220, Tryz.ntmps220
  go_wp2_with fail
  go_loopw [5, 10] (fun o k wr => ∃ j : Nat, j ≤ xs.length ∧ k = .int .i64 j ∧ Ext w wr ∧ Own (New w) strE wr w.heap.size 9 o ((xs.map f).take j)) (fun _ k _ => xs.length - (intOf k).toNat)
  case atStart => exact ⟨0, by omega, by simp, Ext.refl _, Own.nil _ _ _ _ _⟩
  case round =>
    obtain ⟨j, hj, rfl, hx, hown⟩ := hrel
    by_cases hlt : j < xs.length
    · obtain ⟨b, off, va, vr, rfl, hva, hvr, h0, h1, h2, h3, h4⟩ := Hs.out j hlt
      have h0 := hx.cell h0
      have h1 := hx.cell h1
      have h2 := hx.cell h2
      have h3 := hx.cell h3
      have h4 := hx.cell h4
      have hb1 := cell_lt h0
      obtain ⟨va1, va2, rfl⟩ := hva.len
      obtain ⟨vr1, vr2, rfl⟩ := hvr.len
      have Hown := Lib.hid hown
      clear hown
      go_wp2_with fail
      refine (Hp.out xs[j] (List.getElem_mem hlt) _ _ (hx.alloc _) ⟨_, ⟨_, _, rfl, hva.mono (hx.alloc _), hvr.mono (hx.alloc _)⟩, rfl⟩).mono ?_
      rintro e w1 ⟨v1, rfl, ⟨cs, hrel, rfl⟩, hx1⟩
      have hx2 := ((hx.alloc _)).trans hx1
      have hown1 : Own (New w) strE w1 w.heap.size 9 u5 ((xs.map f).take j) := Hown.out.kept (Ext.trans ((Ext.refl wr).alloc _) hx1)
      have Hlt : ∀ k, u5.ownBlock = some k → k < wr.heap.size := fun k hk => (Hown.out.lt k hk).2
      have Hrel : Hid (strE.rel (fun b => New w b ∧ some b ≠ u5.ownBlock) w1 (f xs[j]) cs) := strE.mono _ _ _ _ _ _ (fun _ _ _ => rfl) (fun b hb _ => ⟨New.mono (Ext.size (hx.alloc _)) hb, fun e => by have h1 := Hlt b e.symm; have h2 : _ ≤ b := hb; (try simp at h2); omega⟩) hrel
      obtain rfl : cs = _ := hrel
      have Hown1 := Lib.hid hown1
      have Hx2 := Lib.hid hx2
      have hsz := hx2.size
      clear hown1 Hown hx1 hx2 Hlt
      simp only [pack]
      go_wp2_with (at_builtin; refine own_append strE w.heap.size rfl _ _ 70 9 16 rfl slice70 _ _ (f xs[j]) _ rfl rfl Hown1.out Hrel.out ?c1 ?c2 ?c3 ?_)
      case c1 => exact hsz
      case c2 => simp; omega
      case c3 => decide
      intro v2 w2 hown2 hg2
      have hown2 : Own (New w) strE w2 w.heap.size 9 v2 ((xs.map f).take (j + 1)) := by rw [take_map_snoc f xs j hlt]; exact hown2
      have hx3 : Ext w w2 := Below.grown Hx2.out hg2 hsz (fun k hk => (Hown1.out.lt k hk).1)
      clear hg2 Hown1 Hx2 Hrel
      go_wp2_with fail
      go_roundw
      case rel => exact ⟨j + 1, by omega, by go_num, hx3, hown2⟩
      case measure => simp [intOf]; omega
    · go_wp2_with fail
      go_ret
      refine ⟨_, rfl, ?_, hx⟩
      have : (xs.map f).take j = xs.map f := List.take_of_length_le (by simp; omega)
      rw [this] at hown
      exact hown.sl (fun b hb => hb)

set_option maxRecDepth 100000 in
set_option maxHeartbeats 2000000 in
theorem turned_over_str (g : Nat) (cb : Array Value) (w : World) (v : Value) (xs : List Over) (f : Over → ByteArray) (hv : Sl overE w v xs) (hn : xs.length ≤ 1048576)
    (hp : MapP overE strE w g cb xs f) :
    Calls Tryz.prog 222 #[v, .func (.func g) #[] cb] w (RetP w (fun w' u => SlF (New w) strE w' u (xs.map f))) := by
  obtain ⟨A, cap, rfl, hs⟩ := hv.over
  have eg : ∀ args w, (callFunc g args).run Tryz.prog w = .ok (.enter g args) w := hp.1
  have Hp := Lib.hid hp.2
  have Hs := Lib.hid hs
  clear hp hs hv
  go_enter Tryz.func222, Tryz.ntmps222
  go_wp2_with fail
  go_loopw [5, 10] (fun o k wr => ∃ j : Nat, j ≤ xs.length ∧ k = .int .i64 j ∧ Ext w wr ∧ Own (New w) strE wr w.heap.size 9 o ((xs.map f).take j)) (fun _ k _ => xs.length - (intOf k).toNat)
  case atStart => exact ⟨0, by omega, by simp, Ext.refl _, Own.nil _ _ _ _ _⟩
  case round =>
    obtain ⟨j, hj, rfl, hx, hown⟩ := hrel
    by_cases hlt : j < xs.length
    · obtain ⟨b, off, rfl, h0, h1⟩ := Hs.out j hlt
      have h0 := hx.cell h0
      have h1 := hx.cell h1
      have hb1 := cell_lt h0
      have Hown := Lib.hid hown
      clear hown
      go_wp2_with fail
      refine (Hp.out xs[j] (List.getElem_mem hlt) _ _ (hx.alloc _) ⟨_, rfl, rfl⟩).mono ?_
      rintro e w1 ⟨v1, rfl, ⟨cs, hrel, rfl⟩, hx1⟩
      have hx2 := ((hx.alloc _)).trans hx1
      have hown1 : Own (New w) strE w1 w.heap.size 9 u5 ((xs.map f).take j) := Hown.out.kept (Ext.trans ((Ext.refl wr).alloc _) hx1)
      have Hlt : ∀ k, u5.ownBlock = some k → k < wr.heap.size := fun k hk => (Hown.out.lt k hk).2
      have Hrel : Hid (strE.rel (fun b => New w b ∧ some b ≠ u5.ownBlock) w1 (f xs[j]) cs) := strE.mono _ _ _ _ _ _ (fun _ _ _ => rfl) (fun b hb _ => ⟨New.mono (Ext.size (hx.alloc _)) hb, fun e => by have h1 := Hlt b e.symm; have h2 : _ ≤ b := hb; (try simp at h2); omega⟩) hrel
      obtain rfl : cs = _ := hrel
      have Hown1 := Lib.hid hown1
      have Hx2 := Lib.hid hx2
      have hsz := hx2.size
      clear hown1 Hown hx1 hx2 Hlt
      simp only [pack]
      go_wp2_with (at_builtin; refine own_append strE w.heap.size rfl _ _ 70 9 16 rfl slice70 _ _ (f xs[j]) _ rfl rfl Hown1.out Hrel.out ?c1 ?c2 ?c3 ?_)
      case c1 => exact hsz
      case c2 => simp; omega
      case c3 => decide
      intro v2 w2 hown2 hg2
      have hown2 : Own (New w) strE w2 w.heap.size 9 v2 ((xs.map f).take (j + 1)) := by rw [take_map_snoc f xs j hlt]; exact hown2
      have hx3 : Ext w w2 := Below.grown Hx2.out hg2 hsz (fun k hk => (Hown1.out.lt k hk).1)
      clear hg2 Hown1 Hx2 Hrel
      go_wp2_with fail
      go_roundw
      case rel => exact ⟨j + 1, by omega, by go_num, hx3, hown2⟩
      case measure => simp [intOf]; omega
    · go_wp2_with fail
      go_ret
      refine ⟨_, rfl, ?_, hx⟩
      have : (xs.map f).take j = xs.map f := List.take_of_length_le (by simp; omega)
      rw [this] at hown
      exact hown.sl (fun b hb => hb)

set_option maxRecDepth 100000 in
set_option maxHeartbeats 2000000 in
theorem turned_int_str (g : Nat) (cb : Array Value) (w : World) (v : Value) (xs : List Int) (f : Int → ByteArray) (hv : Sl intE w v xs) (hn : xs.length ≤ 1048576)
    (hp : MapP intE strE w g cb xs f) :
    Calls Tryz.prog 189 #[v, .func (.func g) #[] cb] w (RetP w (fun w' u => SlF (New w) strE w' u (xs.map f))) := by
  obtain ⟨A, cap, rfl, hs⟩ := hv.int
  have eg : ∀ args w, (callFunc g args).run Tryz.prog w = .ok (.enter g args) w := hp.1
  have Hp := Lib.hid hp.2
  have Hs := Lib.hid hs
  clear hp hs hv
  go_enter Tryz.func189, Tryz.ntmps189
  go_wp2_with fail
  go_loopw [5, 10] (fun o k wr => ∃ j : Nat, j ≤ xs.length ∧ k = .int .i64 j ∧ Ext w wr ∧ Own (New w) strE wr w.heap.size 9 o ((xs.map f).take j)) (fun _ k _ => xs.length - (intOf k).toNat)
  case atStart => exact ⟨0, by omega, by simp, Ext.refl _, Own.nil _ _ _ _ _⟩
  case round =>
    obtain ⟨j, hj, rfl, hx, hown⟩ := hrel
    by_cases hlt : j < xs.length
    · obtain ⟨b, off, rfl, h0⟩ := Hs.out j hlt
      have h0 := hx.cell h0
      have Hown := Lib.hid hown
      clear hown
      go_wp2_with fail
      refine (Hp.out xs[j] (List.getElem_mem hlt) _ _ hx ⟨_, rfl, rfl⟩).mono ?_
      rintro e w1 ⟨v1, rfl, ⟨cs, hrel, rfl⟩, hx1⟩
      have hx2 := (hx).trans hx1
      have hown1 : Own (New w) strE w1 w.heap.size 9 u5 ((xs.map f).take j) := Hown.out.kept (Ext.trans (Ext.refl _) hx1)
      have Hlt : ∀ k, u5.ownBlock = some k → k < wr.heap.size := fun k hk => (Hown.out.lt k hk).2
      have Hrel : Hid (strE.rel (fun b => New w b ∧ some b ≠ u5.ownBlock) w1 (f xs[j]) cs) := strE.mono _ _ _ _ _ _ (fun _ _ _ => rfl) (fun b hb _ => ⟨New.mono (Ext.size hx) hb, fun e => by have h1 := Hlt b e.symm; have h2 : _ ≤ b := hb; (try simp at h2); omega⟩) hrel
      obtain rfl : cs = _ := hrel
      have Hown1 := Lib.hid hown1
      have Hx2 := Lib.hid hx2
      have hsz := hx2.size
      clear hown1 Hown hx1 hx2 Hlt
      simp only [pack]
      go_wp2_with (at_builtin; refine own_append strE w.heap.size rfl _ _ 70 9 16 rfl slice70 _ _ (f xs[j]) _ rfl rfl Hown1.out Hrel.out ?c1 ?c2 ?c3 ?_)
      case c1 => exact hsz
      case c2 => simp; omega
      case c3 => decide
      intro v2 w2 hown2 hg2
      have hown2 : Own (New w) strE w2 w.heap.size 9 v2 ((xs.map f).take (j + 1)) := by rw [take_map_snoc f xs j hlt]; exact hown2
      have hx3 : Ext w w2 := Below.grown Hx2.out hg2 hsz (fun k hk => (Hown1.out.lt k hk).1)
      clear hg2 Hown1 Hx2 Hrel
      go_wp2_with fail
      go_roundw
      case rel => exact ⟨j + 1, by omega, by go_num, hx3, hown2⟩
      case measure => simp [intOf]; omega
    · go_wp2_with fail
      go_ret
      refine ⟨_, rfl, ?_, hx⟩
      have : (xs.map f).take j = xs.map f := List.take_of_length_le (by simp; omega)
      rw [this] at hown
      exact hown.sl (fun b hb => hb)

set_option maxRecDepth 100000 in
set_option maxHeartbeats 2000000 in
theorem turned_part_part (g : Nat) (cb : Array Value) (w : World) (v : Value) (xs : List Part) (f : Part → Part) (hv : Sl partE w v xs) (hn : xs.length ≤ 1048576)
    (hp : MapP partE partE w g cb xs f) :
    Calls Tryz.prog 123 #[v, .func (.func g) #[] cb] w (RetP w (fun w' u => SlF (New w) partE w' u (xs.map f))) := by
  obtain ⟨A, cap, rfl, hs⟩ := hv.part
  have eg : ∀ args w, (callFunc g args).run Tryz.prog w = .ok (.enter g args) w := hp.1
  have Hp := Lib.hid hp.2
  have Hs := Lib.hid hs
  clear hp hs hv
  go_enter Tryz.func123, Tryz.ntmps123
  go_wp2_with fail
  go_loopw [5, 10] (fun o k wr => ∃ j : Nat, j ≤ xs.length ∧ k = .int .i64 j ∧ Ext w wr ∧ Own (New w) partE wr w.heap.size 95 o ((xs.map f).take j)) (fun _ k _ => xs.length - (intOf k).toNat)
  case atStart => exact ⟨0, by omega, by simp, Ext.refl _, Own.nil _ _ _ _ _⟩
  case round =>
    obtain ⟨j, hj, rfl, hx, hown⟩ := hrel
    by_cases hlt : j < xs.length
    · obtain ⟨b, off, rfl, h0, h1⟩ := Hs.out j hlt
      have h0 := hx.cell h0
      have h1 := hx.cell h1
      have hb1 := cell_lt h0
      have Hown := Lib.hid hown
      clear hown
      go_wp2_with fail
      refine (Hp.out xs[j] (List.getElem_mem hlt) _ _ (hx.alloc _) ⟨_, rfl, rfl⟩).mono ?_
      rintro e w1 ⟨v1, rfl, ⟨cs, hrel, rfl⟩, hx1⟩
      have hx2 := ((hx.alloc _)).trans hx1
      have hown1 : Own (New w) partE w1 w.heap.size 95 u5 ((xs.map f).take j) := Hown.out.kept (Ext.trans ((Ext.refl wr).alloc _) hx1)
      have Hlt : ∀ k, u5.ownBlock = some k → k < wr.heap.size := fun k hk => (Hown.out.lt k hk).2
      have Hrel : Hid (partE.rel (fun b => New w b ∧ some b ≠ u5.ownBlock) w1 (f xs[j]) cs) := partE.mono _ _ _ _ _ _ (fun _ _ _ => rfl) (fun b hb _ => ⟨New.mono (Ext.size (hx.alloc _)) hb, fun e => by have h1 := Hlt b e.symm; have h2 : _ ≤ b := hb; (try simp at h2); omega⟩) hrel
      obtain rfl : cs = _ := hrel
      have Hown1 := Lib.hid hown1
      have Hx2 := Lib.hid hx2
      have hsz := hx2.size
      clear hown1 Hown hx1 hx2 Hlt
      simp only [pack]
      go_wp2_with (at_builtin; refine own_append partE w.heap.size rfl _ _ 38 95 24 rfl slice38 _ _ (f xs[j]) _ rfl rfl Hown1.out Hrel.out ?c1 ?c2 ?c3 ?_)
      case c1 => exact hsz
      case c2 => simp; omega
      case c3 => decide
      intro v2 w2 hown2 hg2
      have hown2 : Own (New w) partE w2 w.heap.size 95 v2 ((xs.map f).take (j + 1)) := by rw [take_map_snoc f xs j hlt]; exact hown2
      have hx3 : Ext w w2 := Below.grown Hx2.out hg2 hsz (fun k hk => (Hown1.out.lt k hk).1)
      clear hg2 Hown1 Hx2 Hrel
      go_wp2_with fail
      go_roundw
      case rel => exact ⟨j + 1, by omega, by go_num, hx3, hown2⟩
      case measure => simp [intOf]; omega
    · go_wp2_with fail
      go_ret
      refine ⟨_, rfl, ?_, hx⟩
      have : (xs.map f).take j = xs.map f := List.take_of_length_le (by simp; omega)
      rw [this] at hown
      exact hown.sl (fun b hb => hb)

set_option maxRecDepth 100000 in
set_option maxHeartbeats 2000000 in
theorem turned_method_method (g : Nat) (cb : Array Value) (w : World) (v : Value) (xs : List Method) (f : Method → Method) (hv : Sl methodE w v xs) (hn : xs.length ≤ 1048576)
    (hp : MapP methodE methodE w g cb xs f) :
    Calls Tryz.prog 125 #[v, .func (.func g) #[] cb] w (RetP w (fun w' u => SlF (New w) methodE w' u (xs.map f))) := by
  obtain ⟨A, cap, rfl, hs⟩ := hv.method
  have eg : ∀ args w, (callFunc g args).run Tryz.prog w = .ok (.enter g args) w := hp.1
  have Hp := Lib.hid hp.2
  have Hs := Lib.hid hs
  clear hp hs hv
  go_enter Tryz.func125, Tryz.ntmps125
  go_wp2_with fail
  go_loopw [5, 10] (fun o k wr => ∃ j : Nat, j ≤ xs.length ∧ k = .int .i64 j ∧ Ext w wr ∧ Own (New w) methodE wr w.heap.size 74 o ((xs.map f).take j)) (fun _ k _ => xs.length - (intOf k).toNat)
  case atStart => exact ⟨0, by omega, by simp, Ext.refl _, Own.nil _ _ _ _ _⟩
  case round =>
    obtain ⟨j, hj, rfl, hx, hown⟩ := hrel
    by_cases hlt : j < xs.length
    · obtain ⟨b, off, va, vr, rfl, hva, hvr, h0, h1, h2, h3, h4⟩ := Hs.out j hlt
      have h0 := hx.cell h0
      have h1 := hx.cell h1
      have h2 := hx.cell h2
      have h3 := hx.cell h3
      have h4 := hx.cell h4
      have hb1 := cell_lt h0
      obtain ⟨va1, va2, rfl⟩ := hva.len
      obtain ⟨vr1, vr2, rfl⟩ := hvr.len
      have Hown := Lib.hid hown
      clear hown
      go_wp2_with fail
      refine (Hp.out xs[j] (List.getElem_mem hlt) _ _ (hx.alloc _) ⟨_, ⟨_, _, rfl, hva.mono (hx.alloc _), hvr.mono (hx.alloc _)⟩, rfl⟩).mono ?_
      rintro e w1 ⟨v1, rfl, ⟨cs, hrel, rfl⟩, hx1⟩
      have hx2 := ((hx.alloc _)).trans hx1
      have hown1 : Own (New w) methodE w1 w.heap.size 74 u5 ((xs.map f).take j) := Hown.out.kept (Ext.trans ((Ext.refl wr).alloc _) hx1)
      have Hlt : ∀ k, u5.ownBlock = some k → k < wr.heap.size := fun k hk => (Hown.out.lt k hk).2
      have Hrel : Hid (methodE.rel (fun b => New w b ∧ some b ≠ u5.ownBlock) w1 (f xs[j]) cs) := methodE.mono _ _ _ _ _ _ (fun _ _ _ => rfl) (fun b hb _ => ⟨New.mono (Ext.size (hx.alloc _)) hb, fun e => by have h1 := Hlt b e.symm; have h2 : _ ≤ b := hb; (try simp at h2); omega⟩) hrel
      obtain ⟨_, _, rfl, ⟨_, _, rfl, _⟩, ⟨_, _, rfl, _⟩⟩ := hrel
      have Hown1 := Lib.hid hown1
      have Hx2 := Lib.hid hx2
      have hsz := hx2.size
      clear hown1 Hown hx1 hx2 Hlt
      simp only [pack]
      go_wp2_with (at_builtin; refine own_append methodE w.heap.size rfl _ _ 39 74 88 rfl slice39 _ _ (f xs[j]) _ rfl rfl Hown1.out Hrel.out ?c1 ?c2 ?c3 ?_)
      case c1 => exact hsz
      case c2 => simp; omega
      case c3 => decide
      intro v2 w2 hown2 hg2
      have hown2 : Own (New w) methodE w2 w.heap.size 74 v2 ((xs.map f).take (j + 1)) := by rw [take_map_snoc f xs j hlt]; exact hown2
      have hx3 : Ext w w2 := Below.grown Hx2.out hg2 hsz (fun k hk => (Hown1.out.lt k hk).1)
      clear hg2 Hown1 Hx2 Hrel
      go_wp2_with fail
      go_roundw
      case rel => exact ⟨j + 1, by omega, by go_num, hx3, hown2⟩
      case measure => simp [intOf]; omega
    · go_wp2_with fail
      go_ret
      refine ⟨_, rfl, ?_, hx⟩
      have : (xs.map f).take j = xs.map f := List.take_of_length_le (by simp; omega)
      rw [this] at hown
      exact hown.sl (fun b hb => hb)
end Go.Proofs.YtldnjnnhfeobdaaGreatDoor
/- Contracts: equality of overrides, kinds, indices, and the small function values. Conditions: lengths below 2^20. -/
namespace Go.Proofs.YtldnjnnhfeobdaaGreatDoor
set_option linter.all false
set_option linter.unusedSimpArgs false
set_option linter.unusedVariables false
open Go.RowKit Go.Shelf

theorem neq_over (a b c d : ByteArray) (w : World) : (binOp .neq 117 (.agg #[.string a, .string b]) (.agg #[.string c, .string d])).run Tryz.prog w = .ok (.bool (!(a.toList == c.toList && b.toList == d.toList))) w := by
  have u9 := Tryz.underlying9
  have a9 := Tryz.isAgg9
  have z9 := Tryz.sizeOf9
  have hS : Tryz.prog.underlying 117 = some (.struct (Tryz.prog.fieldsOf 117)) := by kernel_rfl
  have hp : Tryz.prog.stoodInHeld 117 = false := by kernel_rfl
  rw [run_neq_struct, show (10000 : Nat) = 9999 + 1 from rfl, run_equalIn_agg w 9999 117 _ _ hS hp]
  simp only [Program.fieldsOf, Tryz.underlying117]
  go_simp
  by_cases h1 : a.toList = c.toList <;> by_cases h2 : b.toList = d.toList <;> simp [h1, h2]
theorem guard117 (op : BinOp) (x y : Operand) (xs ys : Array Value) (w : World) : (eqGuard op 117 x y (.agg xs) (.agg ys)).run Tryz.prog w = .ok () w := run_eqGuard_agg w op 117 x y xs ys (by kernel_rfl)

/-- 'xs[i] = xs[i]' by names and procedures -/
def overEq (x y : Over) : Bool := x.name.toList == y.name.toList && x.proc.toList == y.proc.toList

set_option maxRecDepth 100000 in
set_option maxHeartbeats 2000000 in
theorem equal_over (w : World) (v u : Value) (xs ys : List Over) (hv : Sl overE w v xs) (hu : Sl overE w u ys) (hn : xs.length ≤ 1048576) (hm : ys.length ≤ 1048576) :
    Calls Tryz.prog 84 #[v, u] w (Ret w (.bool (eqF overEq xs ys))) := by
  obtain ⟨A, cap, rfl, hs⟩ := hv.over
  obtain ⟨B, cbp, rfl, ht⟩ := hu.over
  have Hs := Lib.hid hs
  have Ht := Lib.hid ht
  clear hs hv ht hu
  by_cases hl : xs.length = ys.length
  · have Hl := Lib.hid hl
    have hb : ((xs.length : Int) != (ys.length : Int)) = false := by simp [hl]
    have hle : xs.length ≤ ys.length := by omega
    clear hl
    go_enter Tryz.func84, Tryz.ntmps84
    go_wp2_with fail
    go_loopw [13] (fun k wr => ∃ j : Nat, j ≤ xs.length ∧ k = .int .i64 j ∧ Ext w wr ∧ Hid (∀ i (h : i < xs.length) (h' : i < ys.length), i < j → overEq xs[i] ys[i] = true)) (fun k _ => xs.length - (intOf k).toNat)
    case atStart => exact ⟨0, by omega, by simp, Ext.refl _, fun i _ _ h => by omega⟩
    case round =>
      obtain ⟨j, hj, rfl, hx, hno⟩ := hrel
      by_cases hlt : j < xs.length
      · have hlt' : j < ys.length := by omega
        obtain ⟨b, off, rfl, h0, h1⟩ := Hs.out j hlt
        obtain ⟨c, off2, rfl, g0, g1⟩ := Ht.out j hlt'
        have hb1 := cell_lt (hx.cell h0)
        have hb2 := cell_lt (hx.cell g0)
        have h0 := hx.cell h0
        have h1 := hx.cell h1
        have g0 := hx.cell g0
        have g1 := hx.cell g1
        have i0 : (0 : Int) ≤ (j : Int) := by omega
        have i1 : (j : Int) < (xs.length : Int) := by omega
        have i2 : (j : Int) < (ys.length : Int) := by omega
        cases hpj : overEq xs[j] ys[j]
        · have Hpj := Lib.hid hpj
          have g117 := fun x y xs ys w => guard117 .neq x y xs ys w
          have hne : ∀ w, (binOp .neq 117 (.agg #[.string xs[j].name, .string xs[j].proc]) (.agg #[.string ys[j].name, .string ys[j].proc])).run Tryz.prog w = .ok (.bool true) w := fun w => by
            rw [neq_over]; have h := hpj; simp only [overEq] at h; rw [h]; rfl
          clear hpj
          go_wp2_with fail
          go_quiet (fail)
          go_wp2_with fail
          go_ret
          exact ⟨by rw [eqF_no hlt hlt' Hpj.out]; rfl, hx.drewN _⟩
        · have Hpj := Lib.hid hpj
          have g117 := fun x y xs ys w => guard117 .neq x y xs ys w
          have hne : ∀ w, (binOp .neq 117 (.agg #[.string xs[j].name, .string xs[j].proc]) (.agg #[.string ys[j].name, .string ys[j].proc])).run Tryz.prog w = .ok (.bool false) w := fun w => by
            rw [neq_over]; have h := hpj; simp only [overEq] at h; rw [h]; rfl
          clear hpj
          go_wp2_with fail
          go_quiet (fail)
          go_wp2_with fail
          go_roundw
          case rel => exact ⟨j + 1, by omega, by go_num, hx.drewN _, fun i h h' hi => by
              by_cases e : i = j
              · subst e; exact Hpj.out
              · exact hno.out i h h' (by omega)⟩
          case measure => simp [intOf]; omega
      · go_wp2_with fail
        go_ret
        exact ⟨by rw [eqF_yes Hl.out hlt hno.out]; rfl, hx⟩
  · have Hl := Lib.hid hl
    have hb : ((xs.length : Int) != (ys.length : Int)) = true := by simp; omega
    clear hl
    go_enter Tryz.func84, Tryz.ntmps84
    go_wp2_with fail
    go_ret
    exact ⟨by rw [eqF_len Hl.out]; rfl, Ext.refl _⟩

def hasSuperB (k : Int) : Bool := decide (k = 12 ∨ k = 13)
theorem hasSuper_any (n : Int) (w : World) : Calls Tryz.prog 63 #[.int .u8 n] w fun e w' => e = .returned (.bool (hasSuperB n)) ∧ w = w' := by
  by_cases h1 : n = 12 <;> by_cases h2 : n = 13
  all_goals (first | (exfalso; omega) | skip)
  all_goals
    have h1' : (n == 12) = decide (n = 12) := by rw [Bool.eq_iff_iff]; simp
    have h2' : (n == 13) = decide (n = 13) := by rw [Bool.eq_iff_iff]; simp
    simp only [h1, h2, decide_true, decide_false] at h1' h2'
    have H1 := Lib.hid h1
    have H2 := Lib.hid h2
    (try subst h1)
    (try subst h2)
    go_enter Tryz.func63, Tryz.ntmps63
    go_wp2
    go_ret
    exact ⟨by have := H1.out; have := H2.out; simp_all [hasSuperB], rfl⟩

def hasB (n : Nat) (i : Int) : Bool := inB i 0 ((n : Int) - 1)
set_option maxRecDepth 100000 in
theorem has_any (w : World) (A : Option Addr) (n cap : Nat) (i : Int) (hn : n ≤ 1048576) :
    Calls Tryz.prog 85 #[.agg #[.slice A n cap], .int .i64 i] w (Ret w (.bool (hasB n i))) := by
  go_enter Tryz.func85, Tryz.ntmps85
  go_wp2_with fail
  refine (in_any _ _ _ _).mono ?_
  rintro e w' ⟨rfl, rfl⟩
  go_wp2_with fail
  go_ret
  exact ⟨rfl, (Ext.refl _).alloc _⟩

set_option maxRecDepth 100000 in
theorem agree1_any (w : World) (p q : Part) :
    Calls Tryz.prog 105 #[.agg #[.string p.name, .int .i64 p.type], .agg #[.string q.name, .int .i64 q.type]] w (Ret w (.bool (p.name.toList == q.name.toList))) := by
  cases h : p.name.toList == q.name.toList
  all_goals
    go_enter Tryz.func105, Tryz.ntmps105
    go_wp2_with fail
    go_ret
    exact ⟨rfl, ((Ext.refl _).alloc _).alloc _⟩
end Go.Proofs.YtldnjnnhfeobdaaGreatDoor
