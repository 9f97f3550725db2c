/- Parts of the proof, joined: Plain functions on lists and numbers: names, symbols, brands. No program. No condition; The words in which the contracts of this seat are told: worlds that only grow, slices that read as lists, what a call hands back. No condition; Contracts: names and bytes. No condition but the bounds that are typed; Contracts: slices.IndexFunc and ContainsFunc at the types that are used. Conditions: lengths below 2^20; Contracts: IsName, isBrand, IsSymbol of the program and of the reference. Conditions: lengths below 2^20; Contracts: slices.EqualFunc and slices.Equal at the types that are used. Conditions: lengths below 2^20; Contracts: turned (a list, each element turned) at the types that are used. Conditions: lengths below 2^20; Contracts: equality of overrides, kinds, indices, and the small function values. Conditions: lengths below 2^20; Contracts: symbols, kinds, methods that agree, names out of records. Conditions: lengths below 2^20; the two package variables of Go's library that are read hold what they are laid with; Contracts: methods that agree; what of a type is plain; names out of records. Conditions: lengths below 2^20; A map of the call's own, told as a function from keys to values. Keys: strings, ints, pairs of ints. No condition; Contract: different (names that are names, and no two the same). Conditions: lengths below 2^20. -/
import Derived.Test.YtldnjnnhfeobdaaGreatDoorProg
import Derived.WalkKit
import Derived.Below
import Derived.WalkSpells
import Derived.WalkLawsBesides
import Derived.Lib.Hide
import Derived.Deep.QuietTactic
import Derived.BigQuiet
import Derived.Outline
import Derived.Shelf.Abstract
import Derived.Maps.AppendAt
import Derived.Lib.ConvBytes
import Derived.Laws.StructEq
import Derived.WalkSmall
import Derived.Maps.OwnOps
import Derived.Test.YtldnjnnhfeobdaaGreatDoorShelfP
set_option linter.all false
set_option linter.unusedSimpArgs false
set_option linter.unusedVariables false
namespace Go.Proofs.YtldnjnnhfeobdaaGreatDoor
instance decBytes : DecidableEq ByteArray := fun a b =>
 if h : a.data = b.data then isTrue (by cases a; cases b; simp at h; rw [h]) else isFalse (fun e => h (by rw [e]))
/-- is s in l? -/
def memB (s : ByteArray) (l : List ByteArray) : Bool := l.any fun t => decide (t = s)
theorem memB_append (s : ByteArray) (l m : List ByteArray) : memB s (l ++ m) = (memB s l || memB s m) := by simp [memB]
theorem memB_iff {s : ByteArray} {l : List ByteArray} : memB s l = true ↔ s ∈ l := by simp [memB]
def isLetterB (n : Int) : Bool := decide (65 ≤ n ∧ n ≤ 90 ∨ 97 ≤ n ∧ n ≤ 122)
def isDigitB (n : Int) : Bool := decide (48 ≤ n ∧ n ≤ 57)
def notNameB (n : Int) : Bool := !isLetterB n && !isDigitB n
/-- the bytes of a string -/
def byts (s : ByteArray) : List Int := s.data.toList.map fun b => (b.toNat : Int)
theorem byts_length (s : ByteArray) : (byts s).length = s.size := by simp [byts]
theorem byts_get (s : ByteArray) (i : Nat) (h : i < s.size) : (byts s)[i]'(by rw [byts_length]; exact h) = (s[i].toNat : Int) := by
 simp [byts]; rfl
def inB (n l m : Int) : Bool := decide (l ≤ n) && decide (n ≤ m)
def isNameL (l : List Int) : Bool := inB l.length 1 12 && (isLetterB (l.headD 0) && !l.any notNameB)
def isNameB (s : ByteArray) : Bool := isNameL (byts s)
theorem byts_head (s : ByteArray) (h : 0 < s.size) : (byts s).headD 0 = (s[0].toNat : Int) := by
 rw [← byts_get s 0 h]
 have hl : 0 < (byts s).length := by rw [byts_length]; exact h
 simp only [List.headD_eq_head?_getD, List.head?_eq_getElem?, List.getElem?_eq_getElem hl, Option.getD_some]
theorem byts_range (s : ByteArray) : ∀ x ∈ byts s, 0 ≤ x ∧ x ≤ 255 := by
 intro x hx
 simp only [byts, List.mem_map] at hx
 obtain ⟨b, _, rfl⟩ := hx
 have := b.toNat_lt
 omega
end Go.Proofs.YtldnjnnhfeobdaaGreatDoor
/- The words in which the contracts of this seat are told: worlds that only grow, slices that read as lists, what a call hands back. No condition. -/
namespace Go.Proofs.YtldnjnnhfeobdaaGreatDoor
open Go.RowKit
/-- all that lay in w lies in w' as it lay -/
def Ext (w w' : World) : Prop := Below w.heap.size w w'
theorem Ext.refl (w : World) : Ext w w := Below.refl _ _
theorem Ext.trans {a b c : World} (h : Ext a b) (k : Ext b c) : Ext a c :=
 Below.trans h (Below.mono k (Below.size h))
theorem Ext.alloc {a b : World} (h : Ext a b) (o : Obj) : Ext a (b.alloc o) := Below.alloc h (Below.size h) o
theorem Ext.drew {a b : World} (h : Ext a b) : Ext a b.drew := Below.drew h
theorem Ext.drewN {a b : World} (h : Ext a b) (n : Nat) : Ext a (b.drewN n) := ⟨h.os, h.tape, h.output, h.size, h.block⟩
theorem Ext.setCell {a b : World} (h : Ext a b) {p : Addr} (hp : a.heap.size ≤ p.block) (u : Value) : Ext a (b.setCell p u) := Below.setCell h hp u
theorem Ext.size {a b : World} (h : Ext a b) : a.heap.size ≤ b.heap.size := Below.size h
theorem Ext.cell {a b : World} (h : Ext a b) {p : Addr} {v : Value} (hc : a.cell? p = some v) : b.cell? p = some v :=
 (Below.cell h (World.block_lt_of_cell? a p hc)).trans hc
theorem Ext.frozen {a b : World} (h : Ext a b) {p : Addr} {v : Value} {f : Bool} (hc : a.cell? p = some v) (hf : a.frozen? p = f) : b.frozen? p = f :=
 (Below.frozen h (World.block_lt_of_cell? a p hc)).trans hf
theorem Ext.heap {a b : World} (h : Ext a b) {k : Nat} {o : Obj} (hk : a.heap[k]? = some o) : b.heap[k]? = some o := by
 rw [Below.block h k (Array.getElem?_eq_some_iff.1 hk).1]; exact hk
theorem cell_lt {w : World} {b o : Nat} {v : Value} (h : w.cell? ⟨b, o, none⟩ = some v) : b < w.heap.size := World.block_lt_of_cell? w ⟨b, o, none⟩ h
/-- a call from a later world, seen from the first -/
theorem Ext.below {B : Nat} {a b c : World} (h : Below B a b) (k : Ext b c) (hB : B ≤ b.heap.size) : Below B a c := Below.trans h (Below.mono k hB)
/-- What a call hands back: the value v; all that lay before lies as it lay. -/
def Ret (w : World) (v : Value) (e : Ending) (w' : World) : Prop := e = .returned v ∧ Ext w w'
/-- The same, of a value that is told by what it reads as. -/
def RetP (w : World) (R : World → Value → Prop) (e : Ending) (w' : World) : Prop := ∃ v, e = .returned v ∧ R w' v ∧ Ext w w'
theorem Ret.mk {w w' : World} {v u : Value} (h : u = v) (hx : Ext w w') : Ret w v (.returned u) w' := ⟨by rw [h], hx⟩
/-! ### Elements and slices -/
/-- how an element stands in memory: its cells, and what lies behind them in blocks that F lets -/
structure Elt (α : Type) where
 k : Nat
 pos : 0 < k
 rel : (Nat → Prop) → World → α → List Value → Prop
 len : ∀ F w x cs, rel F w x cs → cs.length = k
 one : ∀ F w x cs, rel F w x cs → ∀ u ∈ cs, u.oneCell' = true
 mono : ∀ (F G : Nat → Prop) w w' x cs, (∀ b, F b → b < w.heap.size → w'.heap[b]? = w.heap[b]?) → (∀ b, F b → b < w.heap.size → G b) → rel F w x cs → rel G w' x cs
def SlF {α : Type} (F : Nat → Prop) (E : Elt α) (w : World) (v : Value) (xs : List α) : Prop :=
 ∃ A cap, v = .slice A xs.length cap ∧
  ∀ i x, xs[i]? = some x → ∃ b off cs, A = some ⟨b, off, none⟩ ∧ (F b ∧ xs.length ≤ cap) ∧ E.rel F w x cs ∧ ∀ j u, cs[j]? = some u → w.cell? ⟨b, off + i * E.k + j, none⟩ = some u
def Any : Nat → Prop := fun _ => True
/-- the slice v reads as the list xs -/
def Sl {α : Type} (E : Elt α) (w : World) (v : Value) (xs : List α) : Prop := SlF Any E w v xs
theorem SlF.mono {α : Type} {E : Elt α} {F G : Nat → Prop} {w w' : World} {v : Value} {xs : List α} (h : SlF F E w v xs)
  (hw : ∀ b, F b → b < w.heap.size → w'.heap[b]? = w.heap[b]?) (hG : ∀ b, F b → b < w.heap.size → G b) : SlF G E w' v xs := by
 obtain ⟨A, cap, rfl, h⟩ := h
 refine ⟨A, cap, rfl, fun i x hi => ?_⟩
 obtain ⟨b, off, cs, hA, ⟨hF, hle⟩, hr, hc⟩ := h i x hi
 have hl := E.len _ _ _ _ hr
 have hp := E.pos
 have hb : b < w.heap.size := cell_lt (hc 0 cs[0] (List.getElem?_eq_getElem (by omega)))
 exact ⟨b, off, cs, hA, ⟨hG b hF hb, hle⟩, E.mono _ _ _ _ _ _ hw hG hr, fun j u hj => (World.cell?_of_block (w := w) (a := ⟨b, off + i * E.k + j, none⟩) (hw b hF hb)).trans (hc j u hj)⟩
theorem SlF.ext {α : Type} {E : Elt α} {F : Nat → Prop} {w w' : World} {v : Value} {xs : List α} (h : SlF F E w v xs) (hx : Ext w w') : SlF F E w' v xs :=
 h.mono (fun b _ hb => Below.block hx b hb) (fun _ h _ => h)
theorem SlF.any {α : Type} {E : Elt α} {F : Nat → Prop} {w : World} {v : Value} {xs : List α} (h : SlF F E w v xs) : Sl E w v xs :=
 h.mono (fun _ _ _ => rfl) (fun _ _ _ => trivial)
theorem Sl.mono {α : Type} {E : Elt α} {w w' : World} {v : Value} {xs : List α} (h : Sl E w v xs) (hx : Ext w w') : Sl E w' v xs := SlF.ext h hx
theorem Elt.ext {α : Type} {E : Elt α} {F : Nat → Prop} {w w' : World} {x : α} {cs : List Value} (h : E.rel F w x cs) (hx : Ext w w') : E.rel F w' x cs :=
 E.mono _ _ _ _ _ _ (fun b _ hb => Below.block hx b hb) (fun _ h _ => h) h
theorem Sl.nil {α : Type} (E : Elt α) (w : World) : Sl E w (.slice none 0 0) [] := ⟨none, 0, rfl, fun i x h => by simp at h⟩
theorem SlF.nil {α : Type} (F : Nat → Prop) (E : Elt α) (w : World) : SlF F E w (.slice none 0 0) [] := ⟨none, 0, rfl, fun i x h => by simp at h⟩
theorem Sl.cap_le {α : Type} {E : Elt α} {w : World} {A : Option Addr} {n c : Nat} {xs : List α} (h : Sl E w (.slice A n c) xs) : xs.length ≤ c := by
 obtain ⟨A', c', e, h⟩ := h
 injection e with _ _ e3
 subst e3
 cases xs with
 | nil => simp
 | cons x xs =>
  obtain ⟨_, _, _, _, ⟨_, hle⟩, _⟩ := h 0 x rfl
  exact hle
def intE : Elt Int where
 k := 1
 pos := by decide
 rel _ _ n cs := cs = [.int .i64 n]
 len := by rintro F w x cs rfl; rfl
 one := by rintro F w x cs rfl; simp [Value.oneCell']
 mono := fun _ _ _ _ _ _ _ _ h => h
def byteE : Elt Int where
 k := 1
 pos := by decide
 rel _ _ n cs := cs = [.int .u8 n]
 len := by rintro F w x cs rfl; rfl
 one := by rintro F w x cs rfl; simp [Value.oneCell']
 mono := fun _ _ _ _ _ _ _ _ h => h
def strE : Elt ByteArray where
 k := 1
 pos := by decide
 rel _ _ s cs := cs = [.string s]
 len := by rintro F w x cs rfl; rfl
 one := by rintro F w x cs rfl; simp [Value.oneCell']
 mono := fun _ _ _ _ _ _ _ _ h => h
structure Part where
 name : ByteArray
 type : Int
structure Method where
 name : ByteArray
 args : List Int
 result : Int
 raises : List ByteArray
 proc : ByteArray
structure Over where
 name : ByteArray
 proc : ByteArray
structure Ty where
 kind : Int
 low : Int
 high : Int
 branded : Bool
 brand : ByteArray
 opaq : ByteArray
 super : Int
 parts : List Part
 methods : List Method
 overs : List Over
abbrev Graph := List Ty
def partE : Elt Part where
 k := 2
 pos := by decide
 rel _ _ p cs := cs = [.string p.name, .int .i64 p.type]
 len := by rintro F w x cs rfl; rfl
 one := by rintro F w x cs rfl; simp [Value.oneCell']
 mono := fun _ _ _ _ _ _ _ _ h => h
def overE : Elt Over where
 k := 2
 pos := by decide
 rel _ _ p cs := cs = [.string p.name, .string p.proc]
 len := by rintro F w x cs rfl; rfl
 one := by rintro F w x cs rfl; simp [Value.oneCell']
 mono := fun _ _ _ _ _ _ _ _ h => h
def methodE : Elt Method where
 k := 5
 pos := by decide
 rel F w m cs := ∃ va vr, cs = [.string m.name, va, .int .i64 m.result, vr, .string m.proc] ∧ SlF F intE w va m.args ∧ SlF F strE w vr m.raises
 len := by rintro F w x cs ⟨va, vr, rfl, _⟩; rfl
 one := by rintro F w x cs ⟨va, vr, rfl, ⟨_, _, rfl, _⟩, ⟨_, _, rfl, _⟩⟩; simp [Value.oneCell']
 mono := fun _ _ _ _ _ _ hw hG ⟨va, vr, e, ha, hr⟩ => ⟨va, vr, e, ha.mono hw hG, hr.mono hw hG⟩
def tyE : Elt Ty where
 k := 10
 pos := by decide
 rel F w t cs := ∃ vp vm vo, cs = [.int .u8 t.kind, .int .i64 t.low, .int .i64 t.high, .bool t.branded, .string t.brand, .string t.opaq, .int .i64 t.super, vp, vm, vo] ∧
  SlF F partE w vp t.parts ∧ SlF F methodE w vm t.methods ∧ SlF F overE w vo t.overs
 len := by rintro F w x cs ⟨va, vr, vo, rfl, _⟩; rfl
 one := by rintro F w x cs ⟨va, vr, vo, rfl, ⟨_, _, rfl, _⟩, ⟨_, _, rfl, _⟩, ⟨_, _, rfl, _⟩⟩; simp [Value.oneCell']
 mono := fun _ _ _ _ _ _ hw hG ⟨vp, vm, vo, e, hp, hm, ho⟩ => ⟨vp, vm, vo, e, hp.mono hw hG, hm.mono hw hG, ho.mono hw hG⟩
/-! ### What a place of a slice holds, in the walk's own spelling -/
section
variable {w : World} {v : Value}
theorem Sl.len {α : Type} {E : Elt α} {xs : List α} (h : Sl E w v xs) : ∃ A cap, v = .slice A xs.length cap := by
 obtain ⟨A, cap, rfl, _⟩ := h
 exact ⟨A, cap, rfl⟩
theorem Sl.int {xs : List Int} (h : Sl intE w v xs) : ∃ A cap, v = .slice A xs.length cap ∧
  ∀ i (hi : i < xs.length), ∃ b off, A = some ⟨b, off, none⟩ ∧ w.cell? ⟨b, off + i, none⟩ = some (.int .i64 xs[i]) := by
 obtain ⟨A, cap, rfl, h⟩ := h
 refine ⟨A, cap, rfl, fun i hi => ?_⟩
 obtain ⟨b, off, cs, hA, _, rfl, hc⟩ := h i xs[i] (List.getElem?_eq_getElem hi)
 exact ⟨b, off, hA, by simpa [intE] using hc 0 _ rfl⟩
theorem Sl.byte {xs : List Int} (h : Sl byteE w v xs) : ∃ A cap, v = .slice A xs.length cap ∧
  ∀ i (hi : i < xs.length), ∃ b off, A = some ⟨b, off, none⟩ ∧ w.cell? ⟨b, off + i, none⟩ = some (.int .u8 xs[i]) := by
 obtain ⟨A, cap, rfl, h⟩ := h
 refine ⟨A, cap, rfl, fun i hi => ?_⟩
 obtain ⟨b, off, cs, hA, _, rfl, hc⟩ := h i xs[i] (List.getElem?_eq_getElem hi)
 exact ⟨b, off, hA, by simpa [byteE] using hc 0 _ rfl⟩
theorem Sl.str {xs : List ByteArray} (h : Sl strE w v xs) : ∃ A cap, v = .slice A xs.length cap ∧
  ∀ i (hi : i < xs.length), ∃ b off, A = some ⟨b, off, none⟩ ∧ w.cell? ⟨b, off + i, none⟩ = some (.string xs[i]) := by
 obtain ⟨A, cap, rfl, h⟩ := h
 refine ⟨A, cap, rfl, fun i hi => ?_⟩
 obtain ⟨b, off, cs, hA, _, rfl, hc⟩ := h i xs[i] (List.getElem?_eq_getElem hi)
 exact ⟨b, off, hA, by simpa [strE] using hc 0 _ rfl⟩
theorem Sl.part {xs : List Part} (h : Sl partE w v xs) : ∃ A cap, v = .slice A xs.length cap ∧
  ∀ i (hi : i < xs.length), ∃ b off, A = some ⟨b, off, none⟩ ∧ w.cell? ⟨b, off + i * 2, none⟩ = some (.string xs[i].name) ∧ w.cell? ⟨b, off + i * 2 + 1, none⟩ = some (.int .i64 xs[i].type) := by
 obtain ⟨A, cap, rfl, h⟩ := h
 refine ⟨A, cap, rfl, fun i hi => ?_⟩
 obtain ⟨b, off, cs, hA, _, rfl, hc⟩ := h i xs[i] (List.getElem?_eq_getElem hi)
 exact ⟨b, off, hA, by simpa [partE] using hc 0 _ rfl, by simpa [partE] using hc 1 _ rfl⟩
theorem Sl.over {xs : List Over} (h : Sl overE w v xs) : ∃ A cap, v = .slice A xs.length cap ∧
  ∀ i (hi : i < xs.length), ∃ b off, A = some ⟨b, off, none⟩ ∧ w.cell? ⟨b, off + i * 2, none⟩ = some (.string xs[i].name) ∧ w.cell? ⟨b, off + i * 2 + 1, none⟩ = some (.string xs[i].proc) := by
 obtain ⟨A, cap, rfl, h⟩ := h
 refine ⟨A, cap, rfl, fun i hi => ?_⟩
 obtain ⟨b, off, cs, hA, _, rfl, hc⟩ := h i xs[i] (List.getElem?_eq_getElem hi)
 exact ⟨b, off, hA, by simpa [overE] using hc 0 _ rfl, by simpa [overE] using hc 1 _ rfl⟩
theorem Sl.method {xs : List Method} (h : Sl methodE w v xs) : ∃ A cap, v = .slice A xs.length cap ∧
  ∀ i (hi : i < xs.length), ∃ b off va vr, A = some ⟨b, off, none⟩ ∧ Sl intE w va xs[i].args ∧ Sl strE w vr xs[i].raises ∧
   w.cell? ⟨b, off + i * 5, none⟩ = some (.string xs[i].name) ∧ w.cell? ⟨b, off + i * 5 + 1, none⟩ = some va ∧ w.cell? ⟨b, off + i * 5 + 2, none⟩ = some (.int .i64 xs[i].result) ∧
   w.cell? ⟨b, off + i * 5 + 3, none⟩ = some vr ∧ w.cell? ⟨b, off + i * 5 + 4, none⟩ = some (.string xs[i].proc) := by
 obtain ⟨A, cap, rfl, h⟩ := h
 refine ⟨A, cap, rfl, fun i hi => ?_⟩
 obtain ⟨b, off, cs, hA, _, ⟨va, vr, rfl, ha, hr⟩, hc⟩ := h i xs[i] (List.getElem?_eq_getElem hi)
 exact ⟨b, off, va, vr, hA, ha, hr, by simpa [methodE] using hc 0 _ rfl, by simpa [methodE] using hc 1 _ rfl, by simpa [methodE] using hc 2 _ rfl, by simpa [methodE] using hc 3 _ rfl, by simpa [methodE] using hc 4 _ rfl⟩
/-- the cells of a type, as a row at a place -/
structure TyAt (w : World) (b o : Nat) (t : Ty) (vp vm vo : Value) : Prop where
 c0 : w.cell? ⟨b, o, none⟩ = some (.int .u8 t.kind)
 c1 : w.cell? ⟨b, o + 1, none⟩ = some (.int .i64 t.low)
 c2 : w.cell? ⟨b, o + 2, none⟩ = some (.int .i64 t.high)
 c3 : w.cell? ⟨b, o + 3, none⟩ = some (.bool t.branded)
 c4 : w.cell? ⟨b, o + 4, none⟩ = some (.string t.brand)
 c5 : w.cell? ⟨b, o + 5, none⟩ = some (.string t.opaq)
 c6 : w.cell? ⟨b, o + 6, none⟩ = some (.int .i64 t.super)
 c7 : w.cell? ⟨b, o + 7, none⟩ = some vp
 c8 : w.cell? ⟨b, o + 8, none⟩ = some vm
 c9 : w.cell? ⟨b, o + 9, none⟩ = some vo
/-- what its slices read as -/
structure TyOf (w : World) (t : Ty) (vp vm vo : Value) : Prop where
 parts : Sl partE w vp t.parts
 methods : Sl methodE w vm t.methods
 overs : Sl overE w vo t.overs
theorem TyAt.mono {w w' : World} {b o : Nat} {t : Ty} {vp vm vo : Value} (h : TyAt w b o t vp vm vo) (hx : Ext w w') : TyAt w' b o t vp vm vo :=
 ⟨hx.cell h.c0, hx.cell h.c1, hx.cell h.c2, hx.cell h.c3, hx.cell h.c4, hx.cell h.c5, hx.cell h.c6, hx.cell h.c7, hx.cell h.c8, hx.cell h.c9⟩
theorem TyOf.mono {w w' : World} {t : Ty} {vp vm vo : Value} (h : TyOf w t vp vm vo) (hx : Ext w w') : TyOf w' t vp vm vo :=
 ⟨h.parts.mono hx, h.methods.mono hx, h.overs.mono hx⟩
theorem Sl.ty {xs : List Ty} (h : Sl tyE w v xs) : ∃ A cap, v = .slice A xs.length cap ∧
  ∀ i (hi : i < xs.length), ∃ b off vp vm vo, A = some ⟨b, off, none⟩ ∧ TyAt w b (off + i * 10) xs[i] vp vm vo ∧ TyOf w xs[i] vp vm vo := by
 obtain ⟨A, cap, rfl, h⟩ := h
 refine ⟨A, cap, rfl, fun i hi => ?_⟩
 obtain ⟨b, off, cs, hA, _, ⟨vp, vm, vo, rfl, hp, hm, ho⟩, hc⟩ := h i xs[i] (List.getElem?_eq_getElem hi)
 exact ⟨b, off, vp, vm, vo, hA, ⟨hc 0 _ rfl, hc 1 _ rfl, hc 2 _ rfl, hc 3 _ rfl, hc 4 _ rfl, hc 5 _ rfl, hc 6 _ rfl, hc 7 _ rfl, hc 8 _ rfl, hc 9 _ rfl⟩, ⟨hp, hm, ho⟩⟩
end
/-! ### A slice of the call's own, appended to -/
/-- the slice type t has elements e of k cells and so many bytes -/
structure SliceOf (P : Program) (t e : TypeId) (k bytes : Nat) : Prop where
 under : P.underlying t = some (.slice e)
 info : ∃ i z, P.info? e = some i ∧ i.zero = some z ∧ i.size = k ∧ i.bytes = bytes ∧ z.cells.size = k
theorem SliceOf.mk' {P : Program} {t e : TypeId} {k bytes : Nat} (h : P.underlying t = some (.slice e))
  (hi : (P.info? e).map (fun i => (i.zero.map (·.cells.size), i.size, i.bytes)) = some (some k, k, bytes)) : SliceOf P t e k bytes := by
 obtain ⟨i, hi, he⟩ := Option.map_eq_some_iff.1 hi
 simp only [Prod.mk.injEq] at he
 obtain ⟨z, hz, hk⟩ := Option.map_eq_some_iff.1 he.1
 exact ⟨h, i, z, hi, hz, he.2.1, he.2.2, hk⟩
/-- v is a slice of the call's own (blocks from base on) that reads as xs; what lies behind its elements lies in F, and not in v's own block -/
def Own {α : Type} (F : Nat → Prop) (E : Elt α) (w : World) (base : Nat) (e : TypeId) (v : Value) (xs : List α) : Prop :=
 ∃ rows : List (List Value), rows.length = xs.length ∧ w.ownsRow base e E.k v xs.length rows.flatten ∧
  ∀ (i : Nat) (x : α) (r : List Value), xs[i]? = some x → rows[i]? = some r → E.rel (fun b => F b ∧ some b ≠ v.ownBlock) w x r
theorem Own.nil {α : Type} (F : Nat → Prop) (E : Elt α) (w : World) (base : Nat) (e : TypeId) : Own F E w base e (.slice none 0 0) [] :=
 ⟨[], rfl, by simpa using World.ownsRow_nil w base e E.k, fun i x r h => by simp at h⟩
/-- What is laid or written elsewhere leaves it. -/
theorem Own.kept {α : Type} {F : Nat → Prop} {E : Elt α} {w w' : World} {base : Nat} {e : TypeId} {v : Value} {xs : List α} (h : Own F E w base e v xs) (hx : Ext w w') : Own F E w' base e v xs := by
 obtain ⟨rows, hl, ho, hr⟩ := h
 exact ⟨rows, hl, ho.kept (row := none) ⟨Below.os hx, Below.tape hx, Below.output hx, Below.size hx, fun k hk _ => Below.block hx k hk⟩ (by cases v.ownBlock <;> simp), fun i x r h1 h2 => Elt.ext (hr i x r h1 h2) hx⟩
theorem flatten_get {k : Nat} : ∀ (rows : List (List Value)) (_ : ∀ r ∈ rows, r.length = k) (i j : Nat) (r : List Value) (u : Value), rows[i]? = some r → r[j]? = some u → rows.flatten[i * k + j]? = some u
 | [], _, i, j, r, u, h, _ => by simp at h
 | s :: rows, hk, 0, j, r, u, h, hj => by
  simp at h
  subst h
  have hlt : j < s.length := (List.getElem?_eq_some_iff.1 hj).1
  rw [List.flatten_cons, Nat.zero_mul, Nat.zero_add, List.getElem?_append_left hlt]
  exact hj
 | s :: rows, hk, i + 1, j, r, u, h, hj => by
  have hs : s.length = k := hk s (by simp)
  have h' : rows[i]? = some r := by simpa using h
  rw [List.flatten_cons, List.getElem?_append_right (by rw [hs, Nat.add_mul]; omega)]
  rw [show (i + 1) * k + j - s.length = i * k + j by rw [hs, Nat.add_mul]; omega]
  exact flatten_get rows (fun r hr => hk r (by simp [hr])) i j r u h' hj
theorem Own.sl {α : Type} {F : Nat → Prop} {E : Elt α} {w : World} {base : Nat} {e : TypeId} {v : Value} {xs : List α} (h : Own F E w base e v xs) (hF : ∀ b, base ≤ b → F b) : SlF F E w v xs := by
 obtain ⟨rows, hl, ho, hr⟩ := h
 have hk : ∀ r ∈ rows, r.length = E.k := by
  intro r hm
  obtain ⟨i, hi, rfl⟩ := List.mem_iff_getElem.1 hm
  exact E.len _ _ _ _ (hr i (xs[i]'(by omega)) rows[i] (List.getElem?_eq_getElem (by omega)) (List.getElem?_eq_getElem hi))
 rcases ho.2 with ⟨rfl, h0⟩ | ⟨g, cap, cur, rfl, hg, hrest⟩
 ·have : xs = [] := List.eq_nil_of_length_eq_zero h0
  subst this
  exact SlF.nil _ _ _
 ·refine ⟨_, cap, rfl, fun i x hi => ?_⟩
  have hlt : i < xs.length := (List.getElem?_eq_some_iff.1 hi).1
  have hrow : rows[i]? = some (rows[i]'(by omega)) := List.getElem?_eq_getElem (by omega)
  refine ⟨g, 0, rows[i]'(by omega), rfl, ⟨hF g hg, hrest.2.1⟩, E.mono _ _ _ _ _ _ (fun _ _ _ => rfl) (fun _ h _ => h.1) (hr i x _ hi hrow), fun j u hj => ?_⟩
  have hc := ho.cells (g := g) rfl (i * E.k + j) u (flatten_get rows hk i j _ u hrow hj)
  have ha : (⟨g, 0, none⟩ : Addr).add (i * E.k + j) = ⟨g, 0 + i * E.k + j, none⟩ := by unfold Addr.add; split <;> simp_all
  rwa [ha] at hc
theorem Own.len {α : Type} {F : Nat → Prop} {E : Elt α} {w : World} {base : Nat} {e : TypeId} {v : Value} {xs : List α} (h : Own F E w base e v xs) : ∃ A cap, v = .slice A xs.length cap := by
 obtain ⟨rows, hl, ho, hr⟩ := h
 rcases ho.2 with ⟨rfl, h0⟩ | ⟨g, cap, cur, rfl, hg, hrest⟩
 ·exact ⟨none, 0, by rw [h0]⟩
 ·exact ⟨_, cap, rfl⟩
theorem Own.lt {α : Type} {F : Nat → Prop} {E : Elt α} {w : World} {base : Nat} {e : TypeId} {v : Value} {xs : List α} (h : Own F E w base e v xs) : ∀ k, v.ownBlock = some k → base ≤ k ∧ k < w.heap.size := by
 obtain ⟨rows, hl, ho, hr⟩ := h
 exact ho.lt
section
variable {P : Program} {ops : Array Oper} {rest : List Oper} {o : Oper} {a : Act} {Q : Exit → Act → World → Prop}
/-- append of one element, which lies in a new block behind W -/
theorem own_append {α : Type} {F : Nat → Prop} (E : Elt α) {W : World} (base : Nat) (hgd : o.guard = none) (s x : Operand) (t e : TypeId) (bytes : Nat)
  (ho : o.op = .call { callee := .builtin .append, args := #[s, x], argTypes := #[t, t] }) (hI : SliceOf P t e E.k bytes)
  (v : Value) (xs : List α) (y : α) (cs : List Value) (hs : a.eval s = v) (hx : a.eval x = .slice (some ⟨W.heap.size, 0, none⟩) 1 1)
  (HO : Own F E W base e v xs) (hy : E.rel (fun b => F b ∧ some b ≠ v.ownBlock) W y cs) (hbase : base ≤ W.heap.size) (hl : (xs.length + 1) * bytes ≤ 140737488355328) (hb0 : 0 < bytes)
  (h : ∀ v1 w1, Own F E w1 base e v1 (xs ++ [y]) → W.grownBy w1 v.ownBlock → wpList P ops Q rest (a.put o.dst v1) w1) :
  wpList P ops Q (o :: rest) a (W.alloc (.cells cs.toArray e)) := by
 obtain ⟨i, z, hi, hz, hsz, hby, hzs⟩ := hI.info
 obtain ⟨rows, hrl, hown, hr⟩ := HO
 have hcl : cs.length = E.k := E.len _ _ _ _ hy
 have hlen : xs.length + 1 ≤ 140737488355328 := Nat.le_trans (Nat.le_mul_of_pos_right _ hb0) hl
 refine wpList_append_own_at (W.alloc (.cells cs.toArray e)) hgd s x t ho base e i z E.k bytes hI.under hi hz hsz hby hzs E.pos v xs.length rows.flatten hs (hown.alloc _) ⟨W.heap.size, 0, none⟩ 1 1 cs hx (by omega)
  (fun j u hj => ?_) (E.one _ _ _ _ hy) (by simp only [maxLen]; omega) hl (by simp; omega) ?_
 ·have hlt : j < cs.length := (List.getElem?_eq_some_iff.1 hj).1
  have ha : (⟨W.heap.size, 0, none⟩ : Addr).add j = ⟨W.heap.size, j, none⟩ := by unfold Addr.add; split <;> simp_all
  rw [ha, World.cell?_alloc_new]
  simpa using hj
 ·intro v1 w1 hown1 hg _ hat
  have hg' : W.grownBy w1 v.ownBlock := World.grownBy.trans (World.grownBy_alloc W _ _) hg
  have hlt := hown.lt
  refine h v1 w1 ⟨rows ++ [cs], by simp [hrl], by simpa using hown1, ?_⟩ hg'
  intro k x1 r h1 h2
  have keep : ∀ x2 r2, E.rel (fun b => F b ∧ some b ≠ v.ownBlock) W x2 r2 → E.rel (fun b => F b ∧ some b ≠ v1.ownBlock) w1 x2 r2 := by
   intro x2 r2 h3
   refine E.mono _ _ _ _ _ _ (fun b hb hbl => hg'.block b hbl hb.2) (fun b hb hbl => ⟨hb.1, ?_⟩) h3
   rcases hat with hat | hat
   ·rw [hat]; exact hb.2
   ·rw [hat]; intro e; injection e with e; simp at e; omega
  by_cases hk : k < xs.length
  ·rw [List.getElem?_append_left hk] at h1
   rw [List.getElem?_append_left (by omega)] at h2
   exact keep _ _ (hr k x1 r h1 h2)
  ·rw [List.getElem?_append_right (by omega)] at h1
   rw [List.getElem?_append_right (by omega), hrl] at h2
   have hk0 : k - xs.length = 0 := by
    have := (List.getElem?_eq_some_iff.1 h1).1
    simp at this
    omega
   rw [hk0] at h1 h2
   simp at h1 h2
   subst h1 h2
   exact keep _ _ hy
end
end Go.Proofs.YtldnjnnhfeobdaaGreatDoor
/- Contracts: names and bytes. No condition but the bounds that are typed. -/
namespace Go.Proofs.YtldnjnnhfeobdaaGreatDoor
open Go.RowKit
theorem in_any (n l m : Int) (w : World) :
  Calls Tryz.prog 59 #[.int .i64 n, .int .i64 l, .int .i64 m] w fun e w' => e = .returned (.bool (inB n l m)) ∧ w = w' := by
 by_cases h : l ≤ n <;> by_cases h2 : n ≤ m
 all_goals
  go_enter Tryz.func59, Tryz.ntmps59
  go_wp2
  go_ret
  exact ⟨by simp_all [inB], rfl⟩
theorem isLetter_any (n : Int) (w : World) :
  Calls Tryz.prog 65 #[.int .u8 n] w fun e w' => e = .returned (.bool (isLetterB n)) ∧ w = w' := by
 by_cases h1 : 65 ≤ n <;> by_cases h2 : n ≤ 90 <;> by_cases h3 : 97 ≤ n <;> by_cases h4 : n ≤ 122
 all_goals (first | (exfalso; omega) | skip)
 all_goals
  go_enter Tryz.func65, Tryz.ntmps65
  go_wp2
  go_ret
  exact ⟨by simp_all [isLetterB], rfl⟩
theorem letter_any (n : Int) (w : World) :
  Calls Tryz.prog 68 #[.int .u8 n] w fun e w' => e = .returned (.bool (isLetterB n)) ∧ w = w' := by
 by_cases h1 : 65 ≤ n <;> by_cases h2 : n ≤ 90 <;> by_cases h3 : 97 ≤ n <;> by_cases h4 : n ≤ 122
 all_goals (first | (exfalso; omega) | skip)
 all_goals
  go_enter Tryz.func68, Tryz.ntmps68
  go_wp2
  go_ret
  exact ⟨by simp_all [isLetterB], rfl⟩
theorem digit_any (n : Int) (w : World) :
  Calls Tryz.prog 69 #[.int .u8 n] w fun e w' => e = .returned (.bool (isDigitB n)) ∧ w = w' := by
 by_cases h1 : 48 ≤ n <;> by_cases h2 : n ≤ 57
 all_goals
  go_enter Tryz.func69, Tryz.ntmps69
  go_wp2
  go_ret
  exact ⟨by simp_all [isDigitB], rfl⟩
theorem isName1_any (n : Int) (w : World) :
  Calls Tryz.prog 67 #[.int .u8 n] w fun e w' => e = .returned (.bool (notNameB n)) ∧ w = w' := by
 cases hl : isLetterB n
 all_goals by_cases h1 : 48 ≤ n <;> by_cases h2 : n ≤ 57
 all_goals
  have H := Lib.hid hl
  clear hl
  go_enter Tryz.func67, Tryz.ntmps67
  go_wp2_with fail
  refine (isLetter_any _ _).mono ?_
  rintro e w' ⟨rfl, rfl⟩
  rw [H.out]
  go_wp2_with fail
  go_ret
  exact ⟨by have := H.out; simp_all [notNameB, isDigitB], rfl⟩
end Go.Proofs.YtldnjnnhfeobdaaGreatDoor
/- Contracts: slices.IndexFunc and ContainsFunc at the types that are used. Conditions: lengths below 2^20. -/
namespace Go.Proofs.YtldnjnnhfeobdaaGreatDoor
open Go.RowKit Go.Shelf
/-- an element as an argument -/
def pack : List Value → Value
 | [v] => v
 | cs => .agg cs.toArray
def Arg {α : Type} (E : Elt α) (w : World) (x : α) (A : Value) : Prop := ∃ cs, E.rel Any w x cs ∧ A = pack cs
/-- a function value that answers p at each of xs, whatever has been laid behind w -/
def Pred {α : Type} (E : Elt α) (w : World) (g : Nat) (cb : Array Value) (xs : List α) (p : α → Bool) : Prop :=
 Enters Tryz.prog g ∧ ∀ x ∈ xs, ∀ w' A, Ext w w' → Arg E w' x A → Calls Tryz.prog g (#[A] ++ cb) w' (Ret w' (.bool (p x)))
theorem Pred.mono {α : Type} {E : Elt α} {w w1 : World} {g : Nat} {cb : Array Value} {xs : List α} {p : α → Bool} (h : Pred E w g cb xs p) (hx : Ext w w1) : Pred E w1 g cb xs p :=
 ⟨h.1, fun x hm w' A hx' ha => h.2 x hm w' A (hx.trans hx') ha⟩
def idxF {α : Type} (p : α → Bool) (xs : List α) : Int := match xs.findIdx? p with | some i => (i : Int) | none => -1
theorem idxF_found {α : Type} {p : α → Bool} {xs : List α} {j : Nat} (hj : j < xs.length) (h : ∀ i (hi : i < xs.length), i < j → p xs[i] = false) (hp : p xs[j] = true) : idxF p xs = (j : Int) := by
 have : xs.findIdx? p = some j := by
  rw [List.findIdx?_eq_some_iff_getElem]
  exact ⟨hj, hp, fun k hk => by rw [h k (by omega) hk]; simp⟩
 unfold idxF
 rw [this]
theorem idxF_none {α : Type} {p : α → Bool} {xs : List α} {j : Nat} (hj : ¬ j < xs.length) (h : ∀ i (hi : i < xs.length), i < j → p xs[i] = false) : idxF p xs = -1 := by
 have : xs.findIdx? p = none := by
  rw [List.findIdx?_eq_none_iff]
  intro x hx
  obtain ⟨i, hi, rfl⟩ := List.mem_iff_getElem.1 hx
  exact h i hi (by omega)
 unfold idxF
 rw [this]
theorem idxF_any {α : Type} (p : α → Bool) (xs : List α) : decide (0 ≤ idxF p xs) = xs.any p := by
 unfold idxF
 cases h : xs.findIdx? p with
 | none =>
  rw [List.findIdx?_eq_none_iff] at h
  have : xs.any p = false := by
   rw [List.any_eq_false]
   intro x hx
   rw [h x hx]
   simp
  rw [this]; rfl
 | some i =>
  rw [List.findIdx?_eq_some_iff_getElem] at h
  obtain ⟨hi, hp, _⟩ := h
  have : xs.any p = true := by
   rw [List.any_eq_true]
   exact ⟨xs[i], List.getElem_mem hi, hp⟩
  rw [this]
  simp
set_option maxRecDepth 100000 in
set_option maxHeartbeats 1000000 in
theorem indexFunc_byte (g : Nat) (cb : Array Value) (w : World) (v : Value) (xs : List Int) (p : Int → Bool) (hv : Sl byteE w v xs) (hn : xs.length ≤ 1048576)
  (hp : Pred byteE w g cb xs p) :
  Calls Tryz.prog 121 #[v, .func (.func g) #[] cb] w (Ret w (.int .i64 (idxF p xs))) := by
 obtain ⟨A, cap, rfl, hs⟩ := hv.byte
 have eg : ∀ args w, (callFunc g args).run Tryz.prog w = .ok (.enter g args) w := hp.1
 have Hp := Lib.hid hp.2
 have Hs := Lib.hid hs
 clear hp hs hv
 go_enter Tryz.func121, Tryz.ntmps121
 go_wp2_with fail
 go_loopw [8] (fun k wr => ∃ j : Nat, j ≤ xs.length ∧ k = .int .i64 j ∧ Ext w wr ∧ Hid (∀ i (h : i < xs.length), i < j → p xs[i] = false)) (fun k _ => xs.length - (intOf k).toNat)
 case atStart => exact ⟨0, by omega, by simp, Ext.refl _, fun i _ h => by omega⟩
 case round =>
  obtain ⟨j, hj, rfl, hx, hno⟩ := hrel
  by_cases hlt : j < xs.length
  ·obtain ⟨b, off, rfl, h0⟩ := Hs.out j hlt
   have h0 := hx.cell h0
   go_wp2_with fail
   refine (Hp.out xs[j] (List.getElem_mem hlt) _ _ hx ⟨_, rfl, rfl⟩).mono ?_
   rintro e w1 ⟨rfl, hx1⟩
   cases hpj : p xs[j]
   ·have Hpj := Lib.hid hpj
    clear hpj
    go_wp2_with fail
    go_roundw
    case rel => exact ⟨j + 1, by omega, by go_num, hx.trans hx1, fun i h hi => by
      by_cases e : i = j
      ·subst e; exact Hpj.out
      ·exact hno.out i h (by omega)⟩
    case measure => simp [intOf]; omega
   ·have Hpj := Lib.hid hpj
    clear hpj
    go_wp2_with fail
    go_ret
    exact ⟨by rw [idxF_found hlt hno.out Hpj.out]; rfl, hx.trans hx1⟩
  ·go_wp2_with fail
   go_ret
   exact ⟨by rw [idxF_none hlt hno.out]; rfl, hx⟩
set_option maxRecDepth 100000 in
theorem containsFunc_byte (g : Nat) (cb : Array Value) (w : World) (v : Value) (xs : List Int) (p : Int → Bool) (hv : Sl byteE w v xs) (hn : xs.length ≤ 1048576)
  (hp : Pred byteE w g cb xs p) :
  Calls Tryz.prog 66 #[v, .func (.func g) #[] cb] w (Ret w (.bool (xs.any p))) := by
 have Hp := Lib.hid hp
 have Hv := Lib.hid hv
 have hc := indexFunc_byte g cb w v xs p hv hn hp
 rw [← idxF_any]
 clear hp hv
 generalize idxF p xs = r at hc ⊢
 have Hc := Lib.hid hc
 clear hc
 go_enter Tryz.func66, Tryz.ntmps66
 go_wp2_with fail
 refine Hc.out.mono ?_
 rintro e w1 ⟨rfl, hx1⟩
 go_wp2_with fail
 go_ret
 exact ⟨rfl, hx1⟩
set_option maxRecDepth 100000 in
set_option maxHeartbeats 1000000 in
theorem indexFunc_int (g : Nat) (cb : Array Value) (w : World) (v : Value) (xs : List Int) (p : Int → Bool) (hv : Sl intE w v xs) (hn : xs.length ≤ 1048576)
  (hp : Pred intE w g cb xs p) :
  Calls Tryz.prog 150 #[v, .func (.func g) #[] cb] w (Ret w (.int .i64 (idxF p xs))) := by
 obtain ⟨A, cap, rfl, hs⟩ := hv.int
 have eg : ∀ args w, (callFunc g args).run Tryz.prog w = .ok (.enter g args) w := hp.1
 have Hp := Lib.hid hp.2
 have Hs := Lib.hid hs
 clear hp hs hv
 go_enter Tryz.func150, Tryz.ntmps150
 go_wp2_with fail
 go_loopw [8] (fun k wr => ∃ j : Nat, j ≤ xs.length ∧ k = .int .i64 j ∧ Ext w wr ∧ Hid (∀ i (h : i < xs.length), i < j → p xs[i] = false)) (fun k _ => xs.length - (intOf k).toNat)
 case atStart => exact ⟨0, by omega, by simp, Ext.refl _, fun i _ h => by omega⟩
 case round =>
  obtain ⟨j, hj, rfl, hx, hno⟩ := hrel
  by_cases hlt : j < xs.length
  ·obtain ⟨b, off, rfl, h0⟩ := Hs.out j hlt
   have h0 := hx.cell h0
   go_wp2_with fail
   refine (Hp.out xs[j] (List.getElem_mem hlt) _ _ hx ⟨_, rfl, rfl⟩).mono ?_
   rintro e w1 ⟨rfl, hx1⟩
   cases hpj : p xs[j]
   ·have Hpj := Lib.hid hpj
    clear hpj
    go_wp2_with fail
    go_roundw
    case rel => exact ⟨j + 1, by omega, by go_num, hx.trans hx1, fun i h hi => by
      by_cases e : i = j
      ·subst e; exact Hpj.out
      ·exact hno.out i h (by omega)⟩
    case measure => simp [intOf]; omega
   ·have Hpj := Lib.hid hpj
    clear hpj
    go_wp2_with fail
    go_ret
    exact ⟨by rw [idxF_found hlt hno.out Hpj.out]; rfl, hx.trans hx1⟩
  ·go_wp2_with fail
   go_ret
   exact ⟨by rw [idxF_none hlt hno.out]; rfl, hx⟩
set_option maxRecDepth 100000 in
theorem containsFunc_int (g : Nat) (cb : Array Value) (w : World) (v : Value) (xs : List Int) (p : Int → Bool) (hv : Sl intE w v xs) (hn : xs.length ≤ 1048576)
  (hp : Pred intE w g cb xs p) :
  Calls Tryz.prog 102 #[v, .func (.func g) #[] cb] w (Ret w (.bool (xs.any p))) := by
 have Hp := Lib.hid hp
 have Hv := Lib.hid hv
 have hc := indexFunc_int g cb w v xs p hv hn hp
 rw [← idxF_any]
 clear hp hv
 generalize idxF p xs = r at hc ⊢
 have Hc := Lib.hid hc
 clear hc
 go_enter Tryz.func102, Tryz.ntmps102
 go_wp2_with fail
 refine Hc.out.mono ?_
 rintro e w1 ⟨rfl, hx1⟩
 go_wp2_with fail
 go_ret
 exact ⟨rfl, hx1⟩
set_option maxRecDepth 100000 in
set_option maxHeartbeats 1000000 in
theorem indexFunc_part (g : Nat) (cb : Array Value) (w : World) (v : Value) (xs : List Part) (p : Part → Bool) (hv : Sl partE w v xs) (hn : xs.length ≤ 1048576)
  (hp : Pred partE w g cb xs p) :
  Calls Tryz.prog 241 #[v, .func (.func g) #[] cb] w (Ret w (.int .i64 (idxF p xs))) := by
 obtain ⟨A, cap, rfl, hs⟩ := hv.part
 have eg : ∀ args w, (callFunc g args).run Tryz.prog w = .ok (.enter g args) w := hp.1
 have Hp := Lib.hid hp.2
 have Hs := Lib.hid hs
 clear hp hs hv
 go_enter Tryz.func241, Tryz.ntmps241
 go_wp2_with fail
 go_loopw [8] (fun k wr => ∃ j : Nat, j ≤ xs.length ∧ k = .int .i64 j ∧ Ext w wr ∧ Hid (∀ i (h : i < xs.length), i < j → p xs[i] = false)) (fun k _ => xs.length - (intOf k).toNat)
 case atStart => exact ⟨0, by omega, by simp, Ext.refl _, fun i _ h => by omega⟩
 case round =>
  obtain ⟨j, hj, rfl, hx, hno⟩ := hrel
  by_cases hlt : j < xs.length
  ·obtain ⟨b, off, rfl, h0, h1⟩ := Hs.out j hlt
   have h0 := hx.cell h0
   have h1 := hx.cell h1
   go_wp2_with fail
   refine (Hp.out xs[j] (List.getElem_mem hlt) _ _ hx ⟨_, rfl, rfl⟩).mono ?_
   rintro e w1 ⟨rfl, hx1⟩
   cases hpj : p xs[j]
   ·have Hpj := Lib.hid hpj
    clear hpj
    go_wp2_with fail
    go_roundw
    case rel => exact ⟨j + 1, by omega, by go_num, hx.trans hx1, fun i h hi => by
      by_cases e : i = j
      ·subst e; exact Hpj.out
      ·exact hno.out i h (by omega)⟩
    case measure => simp [intOf]; omega
   ·have Hpj := Lib.hid hpj
    clear hpj
    go_wp2_with fail
    go_ret
    exact ⟨by rw [idxF_found hlt hno.out Hpj.out]; rfl, hx.trans hx1⟩
  ·go_wp2_with fail
   go_ret
   exact ⟨by rw [idxF_none hlt hno.out]; rfl, hx⟩
set_option maxRecDepth 100000 in
theorem containsFunc_part (g : Nat) (cb : Array Value) (w : World) (v : Value) (xs : List Part) (p : Part → Bool) (hv : Sl partE w v xs) (hn : xs.length ≤ 1048576)
  (hp : Pred partE w g cb xs p) :
  Calls Tryz.prog 218 #[v, .func (.func g) #[] cb] w (Ret w (.bool (xs.any p))) := by
 have Hp := Lib.hid hp
 have Hv := Lib.hid hv
 have hc := indexFunc_part g cb w v xs p hv hn hp
 rw [← idxF_any]
 clear hp hv
 generalize idxF p xs = r at hc ⊢
 have Hc := Lib.hid hc
 clear hc
 go_enter Tryz.func218, Tryz.ntmps218
 go_wp2_with fail
 refine Hc.out.mono ?_
 rintro e w1 ⟨rfl, hx1⟩
 go_wp2_with fail
 go_ret
 exact ⟨rfl, hx1⟩
set_option maxRecDepth 100000 in
set_option maxHeartbeats 1000000 in
theorem indexFunc_over (g : Nat) (cb : Array Value) (w : World) (v : Value) (xs : List Over) (p : Over → Bool) (hv : Sl overE w v xs) (hn : xs.length ≤ 1048576)
  (hp : Pred overE w g cb xs p) :
  Calls Tryz.prog 244 #[v, .func (.func g) #[] cb] w (Ret w (.int .i64 (idxF p xs))) := by
 obtain ⟨A, cap, rfl, hs⟩ := hv.over
 have eg : ∀ args w, (callFunc g args).run Tryz.prog w = .ok (.enter g args) w := hp.1
 have Hp := Lib.hid hp.2
 have Hs := Lib.hid hs
 clear hp hs hv
 go_enter Tryz.func244, Tryz.ntmps244
 go_wp2_with fail
 go_loopw [8] (fun k wr => ∃ j : Nat, j ≤ xs.length ∧ k = .int .i64 j ∧ Ext w wr ∧ Hid (∀ i (h : i < xs.length), i < j → p xs[i] = false)) (fun k _ => xs.length - (intOf k).toNat)
 case atStart => exact ⟨0, by omega, by simp, Ext.refl _, fun i _ h => by omega⟩
 case round =>
  obtain ⟨j, hj, rfl, hx, hno⟩ := hrel
  by_cases hlt : j < xs.length
  ·obtain ⟨b, off, rfl, h0, h1⟩ := Hs.out j hlt
   have h0 := hx.cell h0
   have h1 := hx.cell h1
   go_wp2_with fail
   refine (Hp.out xs[j] (List.getElem_mem hlt) _ _ hx ⟨_, rfl, rfl⟩).mono ?_
   rintro e w1 ⟨rfl, hx1⟩
   cases hpj : p xs[j]
   ·have Hpj := Lib.hid hpj
    clear hpj
    go_wp2_with fail
    go_roundw
    case rel => exact ⟨j + 1, by omega, by go_num, hx.trans hx1, fun i h hi => by
      by_cases e : i = j
      ·subst e; exact Hpj.out
      ·exact hno.out i h (by omega)⟩
    case measure => simp [intOf]; omega
   ·have Hpj := Lib.hid hpj
    clear hpj
    go_wp2_with fail
    go_ret
    exact ⟨by rw [idxF_found hlt hno.out Hpj.out]; rfl, hx.trans hx1⟩
  ·go_wp2_with fail
   go_ret
   exact ⟨by rw [idxF_none hlt hno.out]; rfl, hx⟩
set_option maxRecDepth 100000 in
theorem containsFunc_over (g : Nat) (cb : Array Value) (w : World) (v : Value) (xs : List Over) (p : Over → Bool) (hv : Sl overE w v xs) (hn : xs.length ≤ 1048576)
  (hp : Pred overE w g cb xs p) :
  Calls Tryz.prog 227 #[v, .func (.func g) #[] cb] w (Ret w (.bool (xs.any p))) := by
 have Hp := Lib.hid hp
 have Hv := Lib.hid hv
 have hc := indexFunc_over g cb w v xs p hv hn hp
 rw [← idxF_any]
 clear hp hv
 generalize idxF p xs = r at hc ⊢
 have Hc := Lib.hid hc
 clear hc
 go_enter Tryz.func227, Tryz.ntmps227
 go_wp2_with fail
 refine Hc.out.mono ?_
 rintro e w1 ⟨rfl, hx1⟩
 go_wp2_with fail
 go_ret
 exact ⟨rfl, hx1⟩
set_option maxRecDepth 100000 in
set_option maxHeartbeats 1000000 in
theorem indexFunc_method (g : Nat) (cb : Array Value) (w : World) (v : Value) (xs : List Method) (p : Method → Bool) (hv : Sl methodE w v xs) (hn : xs.length ≤ 1048576)
  (hp : Pred methodE w g cb xs p) :
  Calls Tryz.prog 242 #[v, .func (.func g) #[] cb] w (Ret w (.int .i64 (idxF p xs))) := by
 obtain ⟨A, cap, rfl, hs⟩ := hv.method
 have eg : ∀ args w, (callFunc g args).run Tryz.prog w = .ok (.enter g args) w := hp.1
 have Hp := Lib.hid hp.2
 have Hs := Lib.hid hs
 clear hp hs hv
 go_enter Tryz.func242, Tryz.ntmps242
 go_wp2_with fail
 go_loopw [8] (fun k wr => ∃ j : Nat, j ≤ xs.length ∧ k = .int .i64 j ∧ Ext w wr ∧ Hid (∀ i (h : i < xs.length), i < j → p xs[i] = false)) (fun k _ => xs.length - (intOf k).toNat)
 case atStart => exact ⟨0, by omega, by simp, Ext.refl _, fun i _ h => by omega⟩
 case round =>
  obtain ⟨j, hj, rfl, hx, hno⟩ := hrel
  by_cases hlt : j < xs.length
  ·obtain ⟨b, off, va, vr, rfl, hva, hvr, h0, h1, h2, h3, h4⟩ := Hs.out j hlt
   have h0 := hx.cell h0
   have h1 := hx.cell h1
   have h2 := hx.cell h2
   have h3 := hx.cell h3
   have h4 := hx.cell h4
   go_wp2_with fail
   refine (Hp.out xs[j] (List.getElem_mem hlt) _ _ hx ⟨_, ⟨va, vr, rfl, hva.mono hx, hvr.mono hx⟩, rfl⟩).mono ?_
   rintro e w1 ⟨rfl, hx1⟩
   cases hpj : p xs[j]
   ·have Hpj := Lib.hid hpj
    clear hpj
    go_wp2_with fail
    go_roundw
    case rel => exact ⟨j + 1, by omega, by go_num, hx.trans hx1, fun i h hi => by
      by_cases e : i = j
      ·subst e; exact Hpj.out
      ·exact hno.out i h (by omega)⟩
    case measure => simp [intOf]; omega
   ·have Hpj := Lib.hid hpj
    clear hpj
    go_wp2_with fail
    go_ret
    exact ⟨by rw [idxF_found hlt hno.out Hpj.out]; rfl, hx.trans hx1⟩
  ·go_wp2_with fail
   go_ret
   exact ⟨by rw [idxF_none hlt hno.out]; rfl, hx⟩
set_option maxRecDepth 100000 in
theorem containsFunc_method (g : Nat) (cb : Array Value) (w : World) (v : Value) (xs : List Method) (p : Method → Bool) (hv : Sl methodE w v xs) (hn : xs.length ≤ 1048576)
  (hp : Pred methodE w g cb xs p) :
  Calls Tryz.prog 224 #[v, .func (.func g) #[] cb] w (Ret w (.bool (xs.any p))) := by
 have Hp := Lib.hid hp
 have Hv := Lib.hid hv
 have hc := indexFunc_method g cb w v xs p hv hn hp
 rw [← idxF_any]
 clear hp hv
 generalize idxF p xs = r at hc ⊢
 have Hc := Lib.hid hc
 clear hc
 go_enter Tryz.func224, Tryz.ntmps224
 go_wp2_with fail
 refine Hc.out.mono ?_
 rintro e w1 ⟨rfl, hx1⟩
 go_wp2_with fail
 go_ret
 exact ⟨rfl, hx1⟩
end Go.Proofs.YtldnjnnhfeobdaaGreatDoor
/- Contracts: IsName, isBrand, IsSymbol of the program and of the reference. Conditions: lengths below 2^20. -/
namespace Go.Proofs.YtldnjnnhfeobdaaGreatDoor
open Go.RowKit Go.Shelf
theorem bytesWorld_ext (w : World) (e : TypeId) (s : ByteArray) : Ext w (Lib.bytesWorld w e s) :=
  ⟨by simp [Lib.bytesWorld, World.freeze, World.alloc, World.drew, -World.alloc_eq, -World.drew_eq],
   by simp [Lib.bytesWorld, World.freeze, World.alloc, World.drew, -World.alloc_eq, -World.drew_eq],
   by simp [Lib.bytesWorld, World.freeze, World.alloc, World.drew, -World.alloc_eq, -World.drew_eq],
   by rw [Lib.bytesWorld_size]; omega, fun k hk => Lib.bytesWorld_at_old w e s k hk⟩

theorem bytesWorld_sl (w : World) (s : ByteArray) (cap : Nat) (hcap : s.size ≤ cap) : Sl byteE (Lib.bytesWorld w 5 s) (.slice (some ⟨w.heap.size, 0, none⟩) s.size cap) (byts s) := by
 refine ⟨_, cap, by rw [byts_length], fun i x hi => ⟨_, _, _, rfl, ⟨trivial, by rw [byts_length]; exact hcap⟩, rfl, fun j u hj => ?_⟩⟩
 have hlt : i < s.size := by
  have := (List.getElem?_eq_some_iff.1 hi).1
  rwa [byts_length] at this
 cases j with
 | zero =>
  simp at hj
  subst hj
  have h := Lib.bytesWorld_cell w 5 s i hlt
  rw [List.getElem?_eq_getElem (by rw [byts_length]; exact hlt)] at hi
  injection hi with hi
  rw [← hi, byts_get s i hlt]
  simp only [byteE, Nat.mul_one, Nat.add_zero, Nat.zero_add]
  rw [h]
  have hl : i < s.data.toList.length := by simpa using hlt
  rw [List.getD_eq_getElem?_getD, List.getElem?_eq_getElem hl]
  rfl
 | succ j => simp at hj
theorem isBrand1_any (n : Int) (w : World) :
  Calls Tryz.prog 240 #[.int .u8 n] w fun e w' => e = .returned (.bool (decide (n < 32 ∨ n > 126 ∨ n = 34))) ∧ w = w' := by
 by_cases h1 : n < 32 <;> by_cases h2 : 126 < n <;> by_cases h3 : n = 34
 all_goals (first | (exfalso; omega) | skip)
 all_goals
  go_enter Tryz.func240, Tryz.ntmps240
  go_wp2
  go_ret
  exact ⟨by first | (simp_all; done) | (simp_all; rw [Bool.eq_iff_iff]; simp; omega), rfl⟩
theorem pred_byte (w : World) (g : Nat) (xs : List Int) (p : Int → Bool) (hg : Enters Tryz.prog g)
  (h : ∀ (n : Int) (w : World), Calls Tryz.prog g #[.int .u8 n] w fun e w' => e = .returned (.bool (p n)) ∧ w = w') : Pred byteE w g #[] xs p := by
 refine ⟨hg, ?_⟩
 rintro x _ w' A _ ⟨cs, rfl, rfl⟩
 exact (h x w').mono fun e w'' ⟨he, hw⟩ => ⟨he, hw ▸ Ext.refl _⟩
set_option maxRecDepth 100000 in
set_option maxHeartbeats 1000000 in
theorem isName_any (s : ByteArray) (w : World) (hs : s.size ≤ 1048576) : Calls Tryz.prog 27 #[.string s] w (Ret w (.bool (isNameB s))) := by
 have hcv := fun (w : World) => Lib.run_convert_string_bytes (P := Tryz.prog) w 9 100 5 s Tryz.underlying9 Tryz.underlying100 Tryz.underlying5
 have hl := byts_length s
 have hh := byts_head s
 unfold isNameB isNameL
 cases hr : inB (byts s).length 1 12
 ·rw [hl] at hr
  have Hr := Lib.hid hr
  clear hr hl hh
  go_enter Tryz.func27, Tryz.ntmps27
  go_wp2_with fail
  refine (in_any _ _ _ _).mono ?_
  rintro e w' ⟨rfl, rfl⟩
  rw [Hr.out]
  go_wp2_with fail
  go_ret
  exact ⟨rfl, Ext.refl _⟩
 ·rw [hl] at hr
  have hpos : 0 < s.size := by simp [inB] at hr; omega
  have hh := hh hpos
  have Hr := Lib.hid hr
  rw [hh]
  clear hr hl
  cases hlt : isLetterB (s[0].toNat : Int)
  ·have Ht := Lib.hid hlt
   clear hlt hh
   go_enter Tryz.func27, Tryz.ntmps27
   go_wp2_with fail
   refine (in_any _ _ _ _).mono ?_
   rintro e w' ⟨rfl, rfl⟩
   rw [Hr.out]
   go_wp2_with fail
   refine (isLetter_any _ _).mono ?_
   rintro e w' ⟨rfl, rfl⟩
   rw [Ht.out]
   go_wp2_with fail
   go_ret
   exact ⟨rfl, Ext.refl _⟩
  ·have Ht := Lib.hid hlt
   clear hlt hh
   have hp := fun w => containsFunc_byte 67 #[] _ _ _ notNameB (bytesWorld_sl w s (grownCap w s.size 0 5) (grownCap_ge _ _ _ _)) (by rw [byts_length]; exact hs) (pred_byte _ _ _ _ (enters_of Tryz.func67 (by kernel_rfl) rfl) isName1_any)
   generalize (byts s).any notNameB = r at hp ⊢
   have Hp := Lib.hid hp
   clear hp
   go_enter Tryz.func27, Tryz.ntmps27
   go_wp2_with fail
   refine (in_any _ _ _ _).mono ?_
   rintro e w' ⟨rfl, rfl⟩
   rw [Hr.out]
   go_wp2_with fail
   refine (isLetter_any _ _).mono ?_
   rintro e w' ⟨rfl, rfl⟩
   rw [Ht.out]
   go_wp2_with fail
   refine (Hp.out _).mono ?_
   rintro e w1 ⟨rfl, hx1⟩
   go_wp2_with fail
   go_ret
   exact ⟨by simp, (bytesWorld_ext _ _ _).trans hx1⟩
def isBrandB (s : ByteArray) : Bool := decide (s.size ≤ 20) && !(byts s).any fun n => decide (n < 32 ∨ n > 126 ∨ n = 34)
set_option maxRecDepth 100000 in
set_option maxHeartbeats 1000000 in
theorem isBrand_any (s : ByteArray) (w : World) (hs : s.size ≤ 1048576) : Calls Tryz.prog 217 #[.string s] w (Ret w (.bool (isBrandB s))) := by
 have hcv := fun (w : World) => Lib.run_convert_string_bytes (P := Tryz.prog) w 9 100 5 s Tryz.underlying9 Tryz.underlying100 Tryz.underlying5
 unfold isBrandB
 by_cases h20 : s.size ≤ 20
 ·have hp := fun w => containsFunc_byte 240 #[] _ _ _ _ (bytesWorld_sl w s (grownCap w s.size 0 5) (grownCap_ge _ _ _ _)) (by rw [byts_length]; exact hs) (pred_byte _ _ _ _ (enters_of Tryz.func240 (by kernel_rfl) rfl) isBrand1_any)
  generalize ((byts s).any fun n => decide (n < 32 ∨ n > 126 ∨ n = 34)) = r at hp ⊢
  have Hp := Lib.hid hp
  clear hp
  go_enter Tryz.func217, Tryz.ntmps217
  go_wp2_with fail
  refine (Hp.out _).mono ?_
  rintro e w1 ⟨rfl, hx1⟩
  go_wp2_with fail
  go_ret
  exact ⟨by simp [h20], (bytesWorld_ext _ _ _).trans hx1⟩
 ·go_enter Tryz.func217, Tryz.ntmps217
  go_wp2_with fail
  go_ret
  exact ⟨by simp [h20], Ext.refl _⟩
end Go.Proofs.YtldnjnnhfeobdaaGreatDoor
/- Contracts: slices.EqualFunc and slices.Equal at the types that are used. Conditions: lengths below 2^20. -/
namespace Go.Proofs.YtldnjnnhfeobdaaGreatDoor
open Go.RowKit Go.Shelf
/-- a function value that answers p at each two of xs and ys -/
def Pred2 {α : Type} (E : Elt α) (w : World) (g : Nat) (cb : Array Value) (xs ys : List α) (p : α → α → Bool) : Prop :=
 Enters Tryz.prog g ∧ ∀ x ∈ xs, ∀ y ∈ ys, ∀ w' A B, Ext w w' → Arg E w' x A → Arg E w' y B → Calls Tryz.prog g (#[A, B] ++ cb) w' (Ret w' (.bool (p x y)))
theorem Pred2.mono {α : Type} {E : Elt α} {w w1 : World} {g : Nat} {cb : Array Value} {xs ys : List α} {p : α → α → Bool} (h : Pred2 E w g cb xs ys p) (hx : Ext w w1) : Pred2 E w1 g cb xs ys p :=
 ⟨h.1, fun x hm y hy w' A B hx' ha hb => h.2 x hm y hy w' A B (hx.trans hx') ha hb⟩
def eqF {α : Type} (p : α → α → Bool) : List α → List α → Bool
 | [], [] => true
 | x :: xs, y :: ys => p x y && eqF p xs ys
 | _, _ => false
theorem eqF_len {α : Type} {p : α → α → Bool} {xs ys : List α} (h : ¬ xs.length = ys.length) : eqF p xs ys = false := by
 induction xs generalizing ys with
 | nil => cases ys with
  | nil => simp at h
  | cons y ys => rfl
 | cons x xs ih => cases ys with
  | nil => rfl
  | cons y ys => simp only [eqF]; rw [ih (by simpa using h)]; simp
theorem eqF_no {α : Type} {p : α → α → Bool} {xs ys : List α} {j : Nat} (h1 : j < xs.length) (h2 : j < ys.length) (hp : p xs[j] ys[j] = false) : eqF p xs ys = false := by
 induction xs generalizing ys j with
 | nil => simp at h1
 | cons x xs ih => cases ys with
  | nil => rfl
  | cons y ys =>
   cases j with
   | zero => simp only [eqF]; simp at hp; rw [hp]; rfl
   | succ j => simp only [eqF]; rw [ih (j := j) (by simpa using h1) (by simpa using h2) (by simpa using hp)]; simp
theorem eqF_yes {α : Type} {p : α → α → Bool} {xs ys : List α} {j : Nat} (hl : xs.length = ys.length) (hj : ¬ j < xs.length) (h : ∀ i (h1 : i < xs.length) (h2 : i < ys.length), i < j → p xs[i] ys[i] = true) : eqF p xs ys = true := by
 have h : ∀ i (h1 : i < xs.length) (h2 : i < ys.length), p xs[i] ys[i] = true := fun i h1 h2 => h i h1 h2 (by omega)
 clear hj
 rename_i h0
 clear h0
 induction xs generalizing ys with
 | nil => cases ys with
  | nil => rfl
  | cons y ys => simp at hl
 | cons x xs ih => cases ys with
  | nil => simp at hl
  | cons y ys =>
   simp only [eqF]
   have h0 := h 0 (by simp) (by simp)
   simp at h0
   rw [h0, ih (by simpa using hl) (fun i h1 h2 => by have := h (i + 1) (by simpa using h1) (by simpa using h2); simpa using this)]
   rfl
set_option maxRecDepth 100000 in
set_option maxHeartbeats 2000000 in
theorem equalFunc_part (g : Nat) (cb : Array Value) (w : World) (v u : Value) (xs ys : List Part) (p : Part → Part → Bool) (hv : Sl partE w v xs) (hu : Sl partE w u ys) (hn : xs.length ≤ 1048576) (hm : ys.length ≤ 1048576)
  (hp : Pred2 partE w g cb xs ys p) :
  Calls Tryz.prog 104 #[v, u, .func (.func g) #[] cb] w (Ret w (.bool (eqF p xs ys))) := by
 obtain ⟨A, cap, rfl, hs⟩ := hv.part
 obtain ⟨B, cbp, rfl, ht⟩ := hu.part
 have eg : ∀ args w, (callFunc g args).run Tryz.prog w = .ok (.enter g args) w := hp.1
 have Hp := Lib.hid hp.2
 have Hs := Lib.hid hs
 have Ht := Lib.hid ht
 clear hp hs hv ht hu
 by_cases hl : xs.length = ys.length
 ·have Hl := Lib.hid hl
  have hb : ((xs.length : Int) != (ys.length : Int)) = false := by simp [hl]
  have hle : xs.length ≤ ys.length := by omega
  clear hl
  go_enter Tryz.func104, Tryz.ntmps104
  go_wp2_with fail
  go_loopw [17] (fun k wr => ∃ j : Nat, j ≤ xs.length ∧ k = .int .i64 j ∧ Ext w wr ∧ Hid (∀ i (h : i < xs.length) (h' : i < ys.length), i < j → p xs[i] ys[i] = true)) (fun k _ => xs.length - (intOf k).toNat)
  case atStart => exact ⟨0, by omega, by simp, Ext.refl _, fun i _ _ h => by omega⟩
  case round =>
   obtain ⟨j, hj, rfl, hx, hno⟩ := hrel
   by_cases hlt : j < xs.length
   ·have hlt' : j < ys.length := by omega
    obtain ⟨b, off, rfl, h0, h1⟩ := Hs.out j hlt
    obtain ⟨c, off2, rfl, g0, g1⟩ := Ht.out j hlt'
    have hb1 := cell_lt (hx.cell h0)
    have hb2 := cell_lt (hx.cell g0)
    have h0 := hx.cell h0
    have h1 := hx.cell h1
    have g0 := hx.cell g0
    have g1 := hx.cell g1
    go_wp2_with fail
    refine (Hp.out xs[j] (List.getElem_mem hlt) ys[j] (List.getElem_mem hlt') _ _ _ ((hx.alloc _).alloc _) ⟨_, rfl, rfl⟩ ⟨_, rfl, rfl⟩).mono ?_
    rintro e w1 ⟨rfl, hx1⟩
    have hx2 := ((hx.alloc _).alloc _).trans hx1
    clear hx1
    cases hpj : p xs[j] ys[j]
    ·have Hpj := Lib.hid hpj
     clear hpj
     go_wp2_with fail
     go_ret
     exact ⟨by rw [eqF_no hlt hlt' Hpj.out]; rfl, hx2⟩
    ·have Hpj := Lib.hid hpj
     clear hpj
     go_wp2_with fail
     go_roundw
     case rel => exact ⟨j + 1, by omega, by go_num, hx2, fun i h h' hi => by
       by_cases e : i = j
       ·subst e; exact Hpj.out
       ·exact hno.out i h h' (by omega)⟩
     case measure => simp [intOf]; omega
   ·go_wp2_with fail
    go_ret
    exact ⟨by rw [eqF_yes Hl.out hlt hno.out]; rfl, hx⟩
 ·have Hl := Lib.hid hl
  have hb : ((xs.length : Int) != (ys.length : Int)) = true := by simp; omega
  clear hl
  go_enter Tryz.func104, Tryz.ntmps104
  go_wp2_with fail
  go_ret
  exact ⟨by rw [eqF_len Hl.out]; rfl, Ext.refl _⟩
set_option maxRecDepth 100000 in
set_option maxHeartbeats 2000000 in
theorem equalFunc_method (g : Nat) (cb : Array Value) (w : World) (v u : Value) (xs ys : List Method) (p : Method → Method → Bool) (hv : Sl methodE w v xs) (hu : Sl methodE w u ys) (hn : xs.length ≤ 1048576) (hm : ys.length ≤ 1048576)
  (hp : Pred2 methodE w g cb xs ys p) :
  Calls Tryz.prog 83 #[v, u, .func (.func g) #[] cb] w (Ret w (.bool (eqF p xs ys))) := by
 obtain ⟨A, cap, rfl, hs⟩ := hv.method
 obtain ⟨B, cbp, rfl, ht⟩ := hu.method
 have eg : ∀ args w, (callFunc g args).run Tryz.prog w = .ok (.enter g args) w := hp.1
 have Hp := Lib.hid hp.2
 have Hs := Lib.hid hs
 have Ht := Lib.hid ht
 clear hp hs hv ht hu
 by_cases hl : xs.length = ys.length
 ·have Hl := Lib.hid hl
  have hb : ((xs.length : Int) != (ys.length : Int)) = false := by simp [hl]
  have hle : xs.length ≤ ys.length := by omega
  clear hl
  go_enter Tryz.func83, Tryz.ntmps83
  go_wp2_with fail
  go_loopw [17] (fun k wr => ∃ j : Nat, j ≤ xs.length ∧ k = .int .i64 j ∧ Ext w wr ∧ Hid (∀ i (h : i < xs.length) (h' : i < ys.length), i < j → p xs[i] ys[i] = true)) (fun k _ => xs.length - (intOf k).toNat)
  case atStart => exact ⟨0, by omega, by simp, Ext.refl _, fun i _ _ h => by omega⟩
  case round =>
   obtain ⟨j, hj, rfl, hx, hno⟩ := hrel
   by_cases hlt : j < xs.length
   ·have hlt' : j < ys.length := by omega
    obtain ⟨b, off, va, vr, rfl, hva, hvr, h0, h1, h2, h3, h4⟩ := Hs.out j hlt
    obtain ⟨c, off2, ua, ur, rfl, ga, gr, g0, g1, g2, g3, g4⟩ := Ht.out j hlt'
    obtain ⟨va1, va2, rfl⟩ := hva.len
    obtain ⟨vr1, vr2, rfl⟩ := hvr.len
    obtain ⟨ua1, ua2, rfl⟩ := ga.len
    obtain ⟨ur1, ur2, rfl⟩ := gr.len
    have hb1 := cell_lt (hx.cell h0)
    have hb2 := cell_lt (hx.cell g0)
    have h0 := hx.cell h0
    have h1 := hx.cell h1
    have h2 := hx.cell h2
    have h3 := hx.cell h3
    have h4 := hx.cell h4
    have g0 := hx.cell g0
    have g1 := hx.cell g1
    have g2 := hx.cell g2
    have g3 := hx.cell g3
    have g4 := hx.cell g4
    go_wp2_with fail
    refine (Hp.out xs[j] (List.getElem_mem hlt) ys[j] (List.getElem_mem hlt') _ _ _ ((hx.alloc _).alloc _) ⟨_, ⟨_, _, rfl, hva.mono ((hx.alloc _).alloc _), hvr.mono ((hx.alloc _).alloc _)⟩, rfl⟩ ⟨_, ⟨_, _, rfl, ga.mono ((hx.alloc _).alloc _), gr.mono ((hx.alloc _).alloc _)⟩, rfl⟩).mono ?_
    rintro e w1 ⟨rfl, hx1⟩
    have hx2 := ((hx.alloc _).alloc _).trans hx1
    clear hx1
    cases hpj : p xs[j] ys[j]
    ·have Hpj := Lib.hid hpj
     clear hpj
     go_wp2_with fail
     go_ret
     exact ⟨by rw [eqF_no hlt hlt' Hpj.out]; rfl, hx2⟩
    ·have Hpj := Lib.hid hpj
     clear hpj
     go_wp2_with fail
     go_roundw
     case rel => exact ⟨j + 1, by omega, by go_num, hx2, fun i h h' hi => by
       by_cases e : i = j
       ·subst e; exact Hpj.out
       ·exact hno.out i h h' (by omega)⟩
     case measure => simp [intOf]; omega
   ·go_wp2_with fail
    go_ret
    exact ⟨by rw [eqF_yes Hl.out hlt hno.out]; rfl, hx⟩
 ·have Hl := Lib.hid hl
  have hb : ((xs.length : Int) != (ys.length : Int)) = true := by simp; omega
  clear hl
  go_enter Tryz.func83, Tryz.ntmps83
  go_wp2_with fail
  go_ret
  exact ⟨by rw [eqF_len Hl.out]; rfl, Ext.refl _⟩
set_option maxRecDepth 100000 in
set_option maxHeartbeats 2000000 in
theorem equal_int (w : World) (v u : Value) (xs ys : List Int) (hv : Sl intE w v xs) (hu : Sl intE w u ys) (hn : xs.length ≤ 1048576) (hm : ys.length ≤ 1048576) :
  Calls Tryz.prog 80 #[v, u] w (Ret w (.bool (eqF (fun x y => x == y) xs ys))) := by
 obtain ⟨A, cap, rfl, hs⟩ := hv.int
 obtain ⟨B, cbp, rfl, ht⟩ := hu.int
 have Hs := Lib.hid hs
 have Ht := Lib.hid ht
 clear hs hv ht hu
 by_cases hl : xs.length = ys.length
 ·have Hl := Lib.hid hl
  have hb : ((xs.length : Int) != (ys.length : Int)) = false := by simp [hl]
  have hle : xs.length ≤ ys.length := by omega
  clear hl
  go_enter Tryz.func80, Tryz.ntmps80
  go_wp2_with fail
  go_loopw [13] (fun k wr => ∃ j : Nat, j ≤ xs.length ∧ k = .int .i64 j ∧ Ext w wr ∧ Hid (∀ i (h : i < xs.length) (h' : i < ys.length), i < j → (fun (x y : Int) => x == y) xs[i] ys[i] = true)) (fun k _ => xs.length - (intOf k).toNat)
  case atStart => exact ⟨0, by omega, by simp, Ext.refl _, fun i _ _ h => by omega⟩
  case round =>
   obtain ⟨j, hj, rfl, hx, hno⟩ := hrel
   by_cases hlt : j < xs.length
   ·have hlt' : j < ys.length := by omega
    obtain ⟨b, off, rfl, h0⟩ := Hs.out j hlt
    obtain ⟨c, off2, rfl, g0⟩ := Ht.out j hlt'
    have hb1 := cell_lt (hx.cell h0)
    have hb2 := cell_lt (hx.cell g0)
    have h0 := hx.cell h0
    have g0 := hx.cell g0
    have i0 : (0 : Int) ≤ (j : Int) := by omega
    have i1 : (j : Int) < (xs.length : Int) := by omega
    have i2 : (j : Int) < (ys.length : Int) := by omega
    have Hpj : Hid (∀ b, (fun (x y : Int) => x == y) xs[j] ys[j] = b → (fun (x y : Int) => x == y) xs[j] ys[j] = b) := fun b h => h
    cases hpj : (fun (x y : Int) => x == y) xs[j] ys[j]
    ·have Hpj := Lib.hid hpj
     have hpj1 : ((xs[j] : Int) != ys[j]) = true := by simpa using hpj
     clear hpj
     go_wp2_with fail
     go_quiet (fail)
     go_wp2_with fail
     go_ret
     exact ⟨by rw [eqF_no hlt hlt' Hpj.out]; rfl, hx.drewN _⟩
    ·have Hpj := Lib.hid hpj
     have hpj1 : ((xs[j] : Int) != ys[j]) = false := by simpa using hpj
     clear hpj
     go_wp2_with fail
     go_quiet (fail)
     go_wp2_with fail
     go_roundw
     case rel => exact ⟨j + 1, by omega, by go_num, hx.drewN _, fun i h h' hi => by
       by_cases e : i = j
       ·subst e; exact Hpj.out
       ·exact hno.out i h h' (by omega)⟩
     case measure => simp [intOf]; omega
   ·go_wp2_with fail
    go_ret
    exact ⟨by rw [eqF_yes Hl.out hlt hno.out]; rfl, hx⟩
 ·have Hl := Lib.hid hl
  have hb : ((xs.length : Int) != (ys.length : Int)) = true := by simp; omega
  clear hl
  go_enter Tryz.func80, Tryz.ntmps80
  go_wp2_with fail
  go_ret
  exact ⟨by rw [eqF_len Hl.out]; rfl, Ext.refl _⟩
set_option maxRecDepth 100000 in
set_option maxHeartbeats 2000000 in
theorem equal_str (w : World) (v u : Value) (xs ys : List ByteArray) (hv : Sl strE w v xs) (hu : Sl strE w u ys) (hn : xs.length ≤ 1048576) (hm : ys.length ≤ 1048576) :
  Calls Tryz.prog 81 #[v, u] w (Ret w (.bool (eqF (fun x y => x.toList == y.toList) xs ys))) := by
 obtain ⟨A, cap, rfl, hs⟩ := hv.str
 obtain ⟨B, cbp, rfl, ht⟩ := hu.str
 have Hs := Lib.hid hs
 have Ht := Lib.hid ht
 clear hs hv ht hu
 by_cases hl : xs.length = ys.length
 ·have Hl := Lib.hid hl
  have hb : ((xs.length : Int) != (ys.length : Int)) = false := by simp [hl]
  have hle : xs.length ≤ ys.length := by omega
  clear hl
  go_enter Tryz.func81, Tryz.ntmps81
  go_wp2_with fail
  go_loopw [13] (fun k wr => ∃ j : Nat, j ≤ xs.length ∧ k = .int .i64 j ∧ Ext w wr ∧ Hid (∀ i (h : i < xs.length) (h' : i < ys.length), i < j → (fun (x y : ByteArray) => x.toList == y.toList) xs[i] ys[i] = true)) (fun k _ => xs.length - (intOf k).toNat)
  case atStart => exact ⟨0, by omega, by simp, Ext.refl _, fun i _ _ h => by omega⟩
  case round =>
   obtain ⟨j, hj, rfl, hx, hno⟩ := hrel
   by_cases hlt : j < xs.length
   ·have hlt' : j < ys.length := by omega
    obtain ⟨b, off, rfl, h0⟩ := Hs.out j hlt
    obtain ⟨c, off2, rfl, g0⟩ := Ht.out j hlt'
    have hb1 := cell_lt (hx.cell h0)
    have hb2 := cell_lt (hx.cell g0)
    have h0 := hx.cell h0
    have g0 := hx.cell g0
    have i0 : (0 : Int) ≤ (j : Int) := by omega
    have i1 : (j : Int) < (xs.length : Int) := by omega
    have i2 : (j : Int) < (ys.length : Int) := by omega
    have Hpj : Hid (∀ b, (fun (x y : ByteArray) => x.toList == y.toList) xs[j] ys[j] = b → (fun (x y : ByteArray) => x.toList == y.toList) xs[j] ys[j] = b) := fun b h => h
    cases hpj : (fun (x y : ByteArray) => x.toList == y.toList) xs[j] ys[j]
    ·have Hpj := Lib.hid hpj
     have hpj1 : ((xs[j]).toList == (ys[j]).toList) = false := hpj
     clear hpj
     go_wp2_with fail
     go_quiet (fail)
     go_wp2_with fail
     go_ret
     exact ⟨by rw [eqF_no hlt hlt' Hpj.out]; rfl, hx.drewN _⟩
    ·have Hpj := Lib.hid hpj
     have hpj1 : ((xs[j]).toList == (ys[j]).toList) = true := hpj
     clear hpj
     go_wp2_with fail
     go_quiet (fail)
     go_wp2_with fail
     go_roundw
     case rel => exact ⟨j + 1, by omega, by go_num, hx.drewN _, fun i h h' hi => by
       by_cases e : i = j
       ·subst e; exact Hpj.out
       ·exact hno.out i h h' (by omega)⟩
     case measure => simp [intOf]; omega
   ·go_wp2_with fail
    go_ret
    exact ⟨by rw [eqF_yes Hl.out hlt hno.out]; rfl, hx⟩
 ·have Hl := Lib.hid hl
  have hb : ((xs.length : Int) != (ys.length : Int)) = true := by simp; omega
  clear hl
  go_enter Tryz.func81, Tryz.ntmps81
  go_wp2_with fail
  go_ret
  exact ⟨by rw [eqF_len Hl.out]; rfl, Ext.refl _⟩
end Go.Proofs.YtldnjnnhfeobdaaGreatDoor
/- Contracts: turned (a list, each element turned) at the types that are used. Conditions: lengths below 2^20. -/
namespace Go.Proofs.YtldnjnnhfeobdaaGreatDoor
open Go.RowKit Go.Shelf
/-- blocks that are laid from w on -/
def New (w : World) : Nat → Prop := fun b => w.heap.size ≤ b
theorem New.mono {w w' : World} (h : w.heap.size ≤ w'.heap.size) {b : Nat} (hb : New w' b) : New w b := Nat.le_trans h hb
/-- a result that lies in new memory -/
def Res {β : Type} (U : Elt β) (w : World) (y : β) (w' : World) (v : Value) : Prop := ∃ cs, U.rel (New w) w' y cs ∧ v = pack cs
/-- a function value that turns each x of xs to f x, in new memory -/
def MapP {α β : Type} (E : Elt α) (U : Elt β) (w : World) (g : Nat) (cb : Array Value) (xs : List α) (f : α → β) : Prop :=
 Enters Tryz.prog g ∧ ∀ x ∈ xs, ∀ w' A, Ext w w' → Arg E w' x A → Calls Tryz.prog g (#[A] ++ cb) w' (RetP w' (Res U w' (f x)))
theorem MapP.mono {α β : Type} {E : Elt α} {U : Elt β} {w w1 : World} {g : Nat} {cb : Array Value} {xs : List α} {f : α → β} (h : MapP E U w g cb xs f) (hx : Ext w w1) : MapP E U w1 g cb xs f :=
 ⟨h.1, fun x hm w' A hx' ha => h.2 x hm w' A (hx.trans hx') ha⟩
theorem take_map_snoc {α β : Type} (f : α → β) (xs : List α) (j : Nat) (h : j < xs.length) : (xs.map f).take (j + 1) = (xs.map f).take j ++ [f xs[j]] := by
 rw [List.take_succ_eq_append_getElem (by simpa using h)]; simp
theorem slice24 : SliceOf Tryz.prog 24 3 1 8 := .mk' Tryz.underlying24 (by kernel_rfl)
theorem slice70 : SliceOf Tryz.prog 70 9 1 16 := .mk' Tryz.underlying70 (by kernel_rfl)
theorem slice38 : SliceOf Tryz.prog 38 95 2 24 := .mk' Tryz.underlying38 (by kernel_rfl)
theorem slice39 : SliceOf Tryz.prog 39 74 5 88 := .mk' Tryz.underlying39 (by kernel_rfl)
theorem slice22 : SliceOf Tryz.prog 22 42 10 144 := .mk' Tryz.underlying22 (by kernel_rfl)
theorem slice40 : SliceOf Tryz.prog 40 117 2 32 := .mk' Tryz.underlying40 (by kernel_rfl)
set_option maxRecDepth 100000 in
set_option maxHeartbeats 2000000 in
theorem turned_int_int (g : Nat) (cb : Array Value) (w : World) (v : Value) (xs : List Int) (f : Int → Int) (hv : Sl intE w v xs) (hn : xs.length ≤ 1048576)
  (hp : MapP intE intE w g cb xs f) :
  Calls Tryz.prog 73 #[v, .func (.func g) #[] cb] w (RetP w (fun w' u => SlF (New w) intE w' u (xs.map f))) := by
 obtain ⟨A, cap, rfl, hs⟩ := hv.int
 have eg : ∀ args w, (callFunc g args).run Tryz.prog w = .ok (.enter g args) w := hp.1
 have Hp := Lib.hid hp.2
 have Hs := Lib.hid hs
 clear hp hs hv
 go_enter Tryz.func73, Tryz.ntmps73
 go_wp2_with fail
 go_loopw [5, 10] (fun o k wr => ∃ j : Nat, j ≤ xs.length ∧ k = .int .i64 j ∧ Ext w wr ∧ Own (New w) intE wr w.heap.size 3 o ((xs.map f).take j)) (fun _ k _ => xs.length - (intOf k).toNat)
 case atStart => exact ⟨0, by omega, by simp, Ext.refl _, Own.nil _ _ _ _ _⟩
 case round =>
  obtain ⟨j, hj, rfl, hx, hown⟩ := hrel
  by_cases hlt : j < xs.length
  ·obtain ⟨b, off, rfl, h0⟩ := Hs.out j hlt
   have h0 := hx.cell h0
   have Hown := Lib.hid hown
   clear hown
   go_wp2_with fail
   refine (Hp.out xs[j] (List.getElem_mem hlt) _ _ hx ⟨_, rfl, rfl⟩).mono ?_
   rintro e w1 ⟨v1, rfl, ⟨cs, hrel, rfl⟩, hx1⟩
   have hx2 := (hx).trans hx1
   have hown1 : Own (New w) intE w1 w.heap.size 3 u5 ((xs.map f).take j) := Hown.out.kept (Ext.trans (Ext.refl _) hx1)
   have Hlt : ∀ k, u5.ownBlock = some k → k < wr.heap.size := fun k hk => (Hown.out.lt k hk).2
   have Hrel : Hid (intE.rel (fun b => New w b ∧ some b ≠ u5.ownBlock) w1 (f xs[j]) cs) := intE.mono _ _ _ _ _ _ (fun _ _ _ => rfl) (fun b hb _ => ⟨New.mono (Ext.size hx) hb, fun e => by have h1 := Hlt b e.symm; have h2 : _ ≤ b := hb; (try simp at h2); omega⟩) hrel
   obtain rfl : cs = _ := hrel
   have Hown1 := Lib.hid hown1
   have Hx2 := Lib.hid hx2
   have hsz := hx2.size
   clear hown1 Hown hx1 hx2 Hlt
   simp only [pack]
   go_wp2_with (at_builtin; refine own_append intE w.heap.size rfl _ _ 24 3 8 rfl slice24 _ _ (f xs[j]) _ rfl rfl Hown1.out Hrel.out ?c1 ?c2 ?c3 ?_)
   case c1 => exact hsz
   case c2 => simp; omega
   case c3 => decide
   intro v2 w2 hown2 hg2
   have hown2 : Own (New w) intE w2 w.heap.size 3 v2 ((xs.map f).take (j + 1)) := by rw [take_map_snoc f xs j hlt]; exact hown2
   have hx3 : Ext w w2 := Below.grown Hx2.out hg2 hsz (fun k hk => (Hown1.out.lt k hk).1)
   clear hg2 Hown1 Hx2 Hrel
   go_wp2_with fail
   go_roundw
   case rel => exact ⟨j + 1, by omega, by go_num, hx3, hown2⟩
   case measure => simp [intOf]; omega
  ·go_wp2_with fail
   go_ret
   refine ⟨_, rfl, ?_, hx⟩
   have : (xs.map f).take j = xs.map f := List.take_of_length_le (by simp; omega)
   rw [this] at hown
   exact hown.sl (fun b hb => hb)
set_option maxRecDepth 100000 in
set_option maxHeartbeats 2000000 in
theorem turned_part_str (g : Nat) (cb : Array Value) (w : World) (v : Value) (xs : List Part) (f : Part → ByteArray) (hv : Sl partE w v xs) (hn : xs.length ≤ 1048576)
  (hp : MapP partE strE w g cb xs f) :
  Calls Tryz.prog 192 #[v, .func (.func g) #[] cb] w (RetP w (fun w' u => SlF (New w) strE w' u (xs.map f))) := by
 obtain ⟨A, cap, rfl, hs⟩ := hv.part
 have eg : ∀ args w, (callFunc g args).run Tryz.prog w = .ok (.enter g args) w := hp.1
 have Hp := Lib.hid hp.2
 have Hs := Lib.hid hs
 clear hp hs hv
 go_enter Tryz.func192, Tryz.ntmps192
 go_wp2_with fail
 go_loopw [5, 10] (fun o k wr => ∃ j : Nat, j ≤ xs.length ∧ k = .int .i64 j ∧ Ext w wr ∧ Own (New w) strE wr w.heap.size 9 o ((xs.map f).take j)) (fun _ k _ => xs.length - (intOf k).toNat)
 case atStart => exact ⟨0, by omega, by simp, Ext.refl _, Own.nil _ _ _ _ _⟩
 case round =>
  obtain ⟨j, hj, rfl, hx, hown⟩ := hrel
  by_cases hlt : j < xs.length
  ·obtain ⟨b, off, rfl, h0, h1⟩ := Hs.out j hlt
   have h0 := hx.cell h0
   have h1 := hx.cell h1
   have hb1 := cell_lt h0
   have Hown := Lib.hid hown
   clear hown
   go_wp2_with fail
   refine (Hp.out xs[j] (List.getElem_mem hlt) _ _ (hx.alloc _) ⟨_, rfl, rfl⟩).mono ?_
   rintro e w1 ⟨v1, rfl, ⟨cs, hrel, rfl⟩, hx1⟩
   have hx2 := ((hx.alloc _)).trans hx1
   have hown1 : Own (New w) strE w1 w.heap.size 9 u5 ((xs.map f).take j) := Hown.out.kept (Ext.trans ((Ext.refl wr).alloc _) hx1)
   have Hlt : ∀ k, u5.ownBlock = some k → k < wr.heap.size := fun k hk => (Hown.out.lt k hk).2
   have Hrel : Hid (strE.rel (fun b => New w b ∧ some b ≠ u5.ownBlock) w1 (f xs[j]) cs) := strE.mono _ _ _ _ _ _ (fun _ _ _ => rfl) (fun b hb _ => ⟨New.mono (Ext.size (hx.alloc _)) hb, fun e => by have h1 := Hlt b e.symm; have h2 : _ ≤ b := hb; (try simp at h2); omega⟩) hrel
   obtain rfl : cs = _ := hrel
   have Hown1 := Lib.hid hown1
   have Hx2 := Lib.hid hx2
   have hsz := hx2.size
   clear hown1 Hown hx1 hx2 Hlt
   simp only [pack]
   go_wp2_with (at_builtin; refine own_append strE w.heap.size rfl _ _ 70 9 16 rfl slice70 _ _ (f xs[j]) _ rfl rfl Hown1.out Hrel.out ?c1 ?c2 ?c3 ?_)
   case c1 => exact hsz
   case c2 => simp; omega
   case c3 => decide
   intro v2 w2 hown2 hg2
   have hown2 : Own (New w) strE w2 w.heap.size 9 v2 ((xs.map f).take (j + 1)) := by rw [take_map_snoc f xs j hlt]; exact hown2
   have hx3 : Ext w w2 := Below.grown Hx2.out hg2 hsz (fun k hk => (Hown1.out.lt k hk).1)
   clear hg2 Hown1 Hx2 Hrel
   go_wp2_with fail
   go_roundw
   case rel => exact ⟨j + 1, by omega, by go_num, hx3, hown2⟩
   case measure => simp [intOf]; omega
  ·go_wp2_with fail
   go_ret
   refine ⟨_, rfl, ?_, hx⟩
   have : (xs.map f).take j = xs.map f := List.take_of_length_le (by simp; omega)
   rw [this] at hown
   exact hown.sl (fun b hb => hb)
set_option maxRecDepth 100000 in
set_option maxHeartbeats 2000000 in
theorem turned_method_str (g : Nat) (cb : Array Value) (w : World) (v : Value) (xs : List Method) (f : Method → ByteArray) (hv : Sl methodE w v xs) (hn : xs.length ≤ 1048576)
  (hp : MapP methodE strE w g cb xs f) :
  Calls Tryz.prog 220 #[v, .func (.func g) #[] cb] w (RetP w (fun w' u => SlF (New w) strE w' u (xs.map f))) := by
 obtain ⟨A, cap, rfl, hs⟩ := hv.method
 have eg : ∀ args w, (callFunc g args).run Tryz.prog w = .ok (.enter g args) w := hp.1
 have Hp := Lib.hid hp.2
 have Hs := Lib.hid hs
 clear hp hs hv
 go_enter Tryz.func220, Tryz.ntmps220
 go_wp2_with fail
 go_loopw [5, 10] (fun o k wr => ∃ j : Nat, j ≤ xs.length ∧ k = .int .i64 j ∧ Ext w wr ∧ Own (New w) strE wr w.heap.size 9 o ((xs.map f).take j)) (fun _ k _ => xs.length - (intOf k).toNat)
 case atStart => exact ⟨0, by omega, by simp, Ext.refl _, Own.nil _ _ _ _ _⟩
 case round =>
  obtain ⟨j, hj, rfl, hx, hown⟩ := hrel
  by_cases hlt : j < xs.length
  ·obtain ⟨b, off, va, vr, rfl, hva, hvr, h0, h1, h2, h3, h4⟩ := Hs.out j hlt
   have h0 := hx.cell h0
   have h1 := hx.cell h1
   have h2 := hx.cell h2
   have h3 := hx.cell h3
   have h4 := hx.cell h4
   have hb1 := cell_lt h0
   obtain ⟨va1, va2, rfl⟩ := hva.len
   obtain ⟨vr1, vr2, rfl⟩ := hvr.len
   have Hown := Lib.hid hown
   clear hown
   go_wp2_with fail
   refine (Hp.out xs[j] (List.getElem_mem hlt) _ _ (hx.alloc _) ⟨_, ⟨_, _, rfl, hva.mono (hx.alloc _), hvr.mono (hx.alloc _)⟩, rfl⟩).mono ?_
   rintro e w1 ⟨v1, rfl, ⟨cs, hrel, rfl⟩, hx1⟩
   have hx2 := ((hx.alloc _)).trans hx1
   have hown1 : Own (New w) strE w1 w.heap.size 9 u5 ((xs.map f).take j) := Hown.out.kept (Ext.trans ((Ext.refl wr).alloc _) hx1)
   have Hlt : ∀ k, u5.ownBlock = some k → k < wr.heap.size := fun k hk => (Hown.out.lt k hk).2
   have Hrel : Hid (strE.rel (fun b => New w b ∧ some b ≠ u5.ownBlock) w1 (f xs[j]) cs) := strE.mono _ _ _ _ _ _ (fun _ _ _ => rfl) (fun b hb _ => ⟨New.mono (Ext.size (hx.alloc _)) hb, fun e => by have h1 := Hlt b e.symm; have h2 : _ ≤ b := hb; (try simp at h2); omega⟩) hrel
   obtain rfl : cs = _ := hrel
   have Hown1 := Lib.hid hown1
   have Hx2 := Lib.hid hx2
   have hsz := hx2.size
   clear hown1 Hown hx1 hx2 Hlt
   simp only [pack]
   go_wp2_with (at_builtin; refine own_append strE w.heap.size rfl _ _ 70 9 16 rfl slice70 _ _ (f xs[j]) _ rfl rfl Hown1.out Hrel.out ?c1 ?c2 ?c3 ?_)
   case c1 => exact hsz
   case c2 => simp; omega
   case c3 => decide
   intro v2 w2 hown2 hg2
   have hown2 : Own (New w) strE w2 w.heap.size 9 v2 ((xs.map f).take (j + 1)) := by rw [take_map_snoc f xs j hlt]; exact hown2
   have hx3 : Ext w w2 := Below.grown Hx2.out hg2 hsz (fun k hk => (Hown1.out.lt k hk).1)
   clear hg2 Hown1 Hx2 Hrel
   go_wp2_with fail
   go_roundw
   case rel => exact ⟨j + 1, by omega, by go_num, hx3, hown2⟩
   case measure => simp [intOf]; omega
  ·go_wp2_with fail
   go_ret
   refine ⟨_, rfl, ?_, hx⟩
   have : (xs.map f).take j = xs.map f := List.take_of_length_le (by simp; omega)
   rw [this] at hown
   exact hown.sl (fun b hb => hb)
set_option maxRecDepth 100000 in
set_option maxHeartbeats 2000000 in
theorem turned_over_str (g : Nat) (cb : Array Value) (w : World) (v : Value) (xs : List Over) (f : Over → ByteArray) (hv : Sl overE w v xs) (hn : xs.length ≤ 1048576)
  (hp : MapP overE strE w g cb xs f) :
  Calls Tryz.prog 222 #[v, .func (.func g) #[] cb] w (RetP w (fun w' u => SlF (New w) strE w' u (xs.map f))) := by
 obtain ⟨A, cap, rfl, hs⟩ := hv.over
 have eg : ∀ args w, (callFunc g args).run Tryz.prog w = .ok (.enter g args) w := hp.1
 have Hp := Lib.hid hp.2
 have Hs := Lib.hid hs
 clear hp hs hv
 go_enter Tryz.func222, Tryz.ntmps222
 go_wp2_with fail
 go_loopw [5, 10] (fun o k wr => ∃ j : Nat, j ≤ xs.length ∧ k = .int .i64 j ∧ Ext w wr ∧ Own (New w) strE wr w.heap.size 9 o ((xs.map f).take j)) (fun _ k _ => xs.length - (intOf k).toNat)
 case atStart => exact ⟨0, by omega, by simp, Ext.refl _, Own.nil _ _ _ _ _⟩
 case round =>
  obtain ⟨j, hj, rfl, hx, hown⟩ := hrel
  by_cases hlt : j < xs.length
  ·obtain ⟨b, off, rfl, h0, h1⟩ := Hs.out j hlt
   have h0 := hx.cell h0
   have h1 := hx.cell h1
   have hb1 := cell_lt h0
   have Hown := Lib.hid hown
   clear hown
   go_wp2_with fail
   refine (Hp.out xs[j] (List.getElem_mem hlt) _ _ (hx.alloc _) ⟨_, rfl, rfl⟩).mono ?_
   rintro e w1 ⟨v1, rfl, ⟨cs, hrel, rfl⟩, hx1⟩
   have hx2 := ((hx.alloc _)).trans hx1
   have hown1 : Own (New w) strE w1 w.heap.size 9 u5 ((xs.map f).take j) := Hown.out.kept (Ext.trans ((Ext.refl wr).alloc _) hx1)
   have Hlt : ∀ k, u5.ownBlock = some k → k < wr.heap.size := fun k hk => (Hown.out.lt k hk).2
   have Hrel : Hid (strE.rel (fun b => New w b ∧ some b ≠ u5.ownBlock) w1 (f xs[j]) cs) := strE.mono _ _ _ _ _ _ (fun _ _ _ => rfl) (fun b hb _ => ⟨New.mono (Ext.size (hx.alloc _)) hb, fun e => by have h1 := Hlt b e.symm; have h2 : _ ≤ b := hb; (try simp at h2); omega⟩) hrel
   obtain rfl : cs = _ := hrel
   have Hown1 := Lib.hid hown1
   have Hx2 := Lib.hid hx2
   have hsz := hx2.size
   clear hown1 Hown hx1 hx2 Hlt
   simp only [pack]
   go_wp2_with (at_builtin; refine own_append strE w.heap.size rfl _ _ 70 9 16 rfl slice70 _ _ (f xs[j]) _ rfl rfl Hown1.out Hrel.out ?c1 ?c2 ?c3 ?_)
   case c1 => exact hsz
   case c2 => simp; omega
   case c3 => decide
   intro v2 w2 hown2 hg2
   have hown2 : Own (New w) strE w2 w.heap.size 9 v2 ((xs.map f).take (j + 1)) := by rw [take_map_snoc f xs j hlt]; exact hown2
   have hx3 : Ext w w2 := Below.grown Hx2.out hg2 hsz (fun k hk => (Hown1.out.lt k hk).1)
   clear hg2 Hown1 Hx2 Hrel
   go_wp2_with fail
   go_roundw
   case rel => exact ⟨j + 1, by omega, by go_num, hx3, hown2⟩
   case measure => simp [intOf]; omega
  ·go_wp2_with fail
   go_ret
   refine ⟨_, rfl, ?_, hx⟩
   have : (xs.map f).take j = xs.map f := List.take_of_length_le (by simp; omega)
   rw [this] at hown
   exact hown.sl (fun b hb => hb)
set_option maxRecDepth 100000 in
set_option maxHeartbeats 2000000 in
theorem turned_int_str (g : Nat) (cb : Array Value) (w : World) (v : Value) (xs : List Int) (f : Int → ByteArray) (hv : Sl intE w v xs) (hn : xs.length ≤ 1048576)
  (hp : MapP intE strE w g cb xs f) :
  Calls Tryz.prog 189 #[v, .func (.func g) #[] cb] w (RetP w (fun w' u => SlF (New w) strE w' u (xs.map f))) := by
 obtain ⟨A, cap, rfl, hs⟩ := hv.int
 have eg : ∀ args w, (callFunc g args).run Tryz.prog w = .ok (.enter g args) w := hp.1
 have Hp := Lib.hid hp.2
 have Hs := Lib.hid hs
 clear hp hs hv
 go_enter Tryz.func189, Tryz.ntmps189
 go_wp2_with fail
 go_loopw [5, 10] (fun o k wr => ∃ j : Nat, j ≤ xs.length ∧ k = .int .i64 j ∧ Ext w wr ∧ Own (New w) strE wr w.heap.size 9 o ((xs.map f).take j)) (fun _ k _ => xs.length - (intOf k).toNat)
 case atStart => exact ⟨0, by omega, by simp, Ext.refl _, Own.nil _ _ _ _ _⟩
 case round =>
  obtain ⟨j, hj, rfl, hx, hown⟩ := hrel
  by_cases hlt : j < xs.length
  ·obtain ⟨b, off, rfl, h0⟩ := Hs.out j hlt
   have h0 := hx.cell h0
   have Hown := Lib.hid hown
   clear hown
   go_wp2_with fail
   refine (Hp.out xs[j] (List.getElem_mem hlt) _ _ hx ⟨_, rfl, rfl⟩).mono ?_
   rintro e w1 ⟨v1, rfl, ⟨cs, hrel, rfl⟩, hx1⟩
   have hx2 := (hx).trans hx1
   have hown1 : Own (New w) strE w1 w.heap.size 9 u5 ((xs.map f).take j) := Hown.out.kept (Ext.trans (Ext.refl _) hx1)
   have Hlt : ∀ k, u5.ownBlock = some k → k < wr.heap.size := fun k hk => (Hown.out.lt k hk).2
   have Hrel : Hid (strE.rel (fun b => New w b ∧ some b ≠ u5.ownBlock) w1 (f xs[j]) cs) := strE.mono _ _ _ _ _ _ (fun _ _ _ => rfl) (fun b hb _ => ⟨New.mono (Ext.size hx) hb, fun e => by have h1 := Hlt b e.symm; have h2 : _ ≤ b := hb; (try simp at h2); omega⟩) hrel
   obtain rfl : cs = _ := hrel
   have Hown1 := Lib.hid hown1
   have Hx2 := Lib.hid hx2
   have hsz := hx2.size
   clear hown1 Hown hx1 hx2 Hlt
   simp only [pack]
   go_wp2_with (at_builtin; refine own_append strE w.heap.size rfl _ _ 70 9 16 rfl slice70 _ _ (f xs[j]) _ rfl rfl Hown1.out Hrel.out ?c1 ?c2 ?c3 ?_)
   case c1 => exact hsz
   case c2 => simp; omega
   case c3 => decide
   intro v2 w2 hown2 hg2
   have hown2 : Own (New w) strE w2 w.heap.size 9 v2 ((xs.map f).take (j + 1)) := by rw [take_map_snoc f xs j hlt]; exact hown2
   have hx3 : Ext w w2 := Below.grown Hx2.out hg2 hsz (fun k hk => (Hown1.out.lt k hk).1)
   clear hg2 Hown1 Hx2 Hrel
   go_wp2_with fail
   go_roundw
   case rel => exact ⟨j + 1, by omega, by go_num, hx3, hown2⟩
   case measure => simp [intOf]; omega
  ·go_wp2_with fail
   go_ret
   refine ⟨_, rfl, ?_, hx⟩
   have : (xs.map f).take j = xs.map f := List.take_of_length_le (by simp; omega)
   rw [this] at hown
   exact hown.sl (fun b hb => hb)
set_option maxRecDepth 100000 in
set_option maxHeartbeats 2000000 in
theorem turned_part_part (g : Nat) (cb : Array Value) (w : World) (v : Value) (xs : List Part) (f : Part → Part) (hv : Sl partE w v xs) (hn : xs.length ≤ 1048576)
  (hp : MapP partE partE w g cb xs f) :
  Calls Tryz.prog 123 #[v, .func (.func g) #[] cb] w (RetP w (fun w' u => SlF (New w) partE w' u (xs.map f))) := by
 obtain ⟨A, cap, rfl, hs⟩ := hv.part
 have eg : ∀ args w, (callFunc g args).run Tryz.prog w = .ok (.enter g args) w := hp.1
 have Hp := Lib.hid hp.2
 have Hs := Lib.hid hs
 clear hp hs hv
 go_enter Tryz.func123, Tryz.ntmps123
 go_wp2_with fail
 go_loopw [5, 10] (fun o k wr => ∃ j : Nat, j ≤ xs.length ∧ k = .int .i64 j ∧ Ext w wr ∧ Own (New w) partE wr w.heap.size 95 o ((xs.map f).take j)) (fun _ k _ => xs.length - (intOf k).toNat)
 case atStart => exact ⟨0, by omega, by simp, Ext.refl _, Own.nil _ _ _ _ _⟩
 case round =>
  obtain ⟨j, hj, rfl, hx, hown⟩ := hrel
  by_cases hlt : j < xs.length
  ·obtain ⟨b, off, rfl, h0, h1⟩ := Hs.out j hlt
   have h0 := hx.cell h0
   have h1 := hx.cell h1
   have hb1 := cell_lt h0
   have Hown := Lib.hid hown
   clear hown
   go_wp2_with fail
   refine (Hp.out xs[j] (List.getElem_mem hlt) _ _ (hx.alloc _) ⟨_, rfl, rfl⟩).mono ?_
   rintro e w1 ⟨v1, rfl, ⟨cs, hrel, rfl⟩, hx1⟩
   have hx2 := ((hx.alloc _)).trans hx1
   have hown1 : Own (New w) partE w1 w.heap.size 95 u5 ((xs.map f).take j) := Hown.out.kept (Ext.trans ((Ext.refl wr).alloc _) hx1)
   have Hlt : ∀ k, u5.ownBlock = some k → k < wr.heap.size := fun k hk => (Hown.out.lt k hk).2
   have Hrel : Hid (partE.rel (fun b => New w b ∧ some b ≠ u5.ownBlock) w1 (f xs[j]) cs) := partE.mono _ _ _ _ _ _ (fun _ _ _ => rfl) (fun b hb _ => ⟨New.mono (Ext.size (hx.alloc _)) hb, fun e => by have h1 := Hlt b e.symm; have h2 : _ ≤ b := hb; (try simp at h2); omega⟩) hrel
   obtain rfl : cs = _ := hrel
   have Hown1 := Lib.hid hown1
   have Hx2 := Lib.hid hx2
   have hsz := hx2.size
   clear hown1 Hown hx1 hx2 Hlt
   simp only [pack]
   go_wp2_with (at_builtin; refine own_append partE w.heap.size rfl _ _ 38 95 24 rfl slice38 _ _ (f xs[j]) _ rfl rfl Hown1.out Hrel.out ?c1 ?c2 ?c3 ?_)
   case c1 => exact hsz
   case c2 => simp; omega
   case c3 => decide
   intro v2 w2 hown2 hg2
   have hown2 : Own (New w) partE w2 w.heap.size 95 v2 ((xs.map f).take (j + 1)) := by rw [take_map_snoc f xs j hlt]; exact hown2
   have hx3 : Ext w w2 := Below.grown Hx2.out hg2 hsz (fun k hk => (Hown1.out.lt k hk).1)
   clear hg2 Hown1 Hx2 Hrel
   go_wp2_with fail
   go_roundw
   case rel => exact ⟨j + 1, by omega, by go_num, hx3, hown2⟩
   case measure => simp [intOf]; omega
  ·go_wp2_with fail
   go_ret
   refine ⟨_, rfl, ?_, hx⟩
   have : (xs.map f).take j = xs.map f := List.take_of_length_le (by simp; omega)
   rw [this] at hown
   exact hown.sl (fun b hb => hb)
set_option maxRecDepth 100000 in
set_option maxHeartbeats 2000000 in
theorem turned_method_method (g : Nat) (cb : Array Value) (w : World) (v : Value) (xs : List Method) (f : Method → Method) (hv : Sl methodE w v xs) (hn : xs.length ≤ 1048576)
  (hp : MapP methodE methodE w g cb xs f) :
  Calls Tryz.prog 125 #[v, .func (.func g) #[] cb] w (RetP w (fun w' u => SlF (New w) methodE w' u (xs.map f))) := by
 obtain ⟨A, cap, rfl, hs⟩ := hv.method
 have eg : ∀ args w, (callFunc g args).run Tryz.prog w = .ok (.enter g args) w := hp.1
 have Hp := Lib.hid hp.2
 have Hs := Lib.hid hs
 clear hp hs hv
 go_enter Tryz.func125, Tryz.ntmps125
 go_wp2_with fail
 go_loopw [5, 10] (fun o k wr => ∃ j : Nat, j ≤ xs.length ∧ k = .int .i64 j ∧ Ext w wr ∧ Own (New w) methodE wr w.heap.size 74 o ((xs.map f).take j)) (fun _ k _ => xs.length - (intOf k).toNat)
 case atStart => exact ⟨0, by omega, by simp, Ext.refl _, Own.nil _ _ _ _ _⟩
 case round =>
  obtain ⟨j, hj, rfl, hx, hown⟩ := hrel
  by_cases hlt : j < xs.length
  ·obtain ⟨b, off, va, vr, rfl, hva, hvr, h0, h1, h2, h3, h4⟩ := Hs.out j hlt
   have h0 := hx.cell h0
   have h1 := hx.cell h1
   have h2 := hx.cell h2
   have h3 := hx.cell h3
   have h4 := hx.cell h4
   have hb1 := cell_lt h0
   obtain ⟨va1, va2, rfl⟩ := hva.len
   obtain ⟨vr1, vr2, rfl⟩ := hvr.len
   have Hown := Lib.hid hown
   clear hown
   go_wp2_with fail
   refine (Hp.out xs[j] (List.getElem_mem hlt) _ _ (hx.alloc _) ⟨_, ⟨_, _, rfl, hva.mono (hx.alloc _), hvr.mono (hx.alloc _)⟩, rfl⟩).mono ?_
   rintro e w1 ⟨v1, rfl, ⟨cs, hrel, rfl⟩, hx1⟩
   have hx2 := ((hx.alloc _)).trans hx1
   have hown1 : Own (New w) methodE w1 w.heap.size 74 u5 ((xs.map f).take j) := Hown.out.kept (Ext.trans ((Ext.refl wr).alloc _) hx1)
   have Hlt : ∀ k, u5.ownBlock = some k → k < wr.heap.size := fun k hk => (Hown.out.lt k hk).2
   have Hrel : Hid (methodE.rel (fun b => New w b ∧ some b ≠ u5.ownBlock) w1 (f xs[j]) cs) := methodE.mono _ _ _ _ _ _ (fun _ _ _ => rfl) (fun b hb _ => ⟨New.mono (Ext.size (hx.alloc _)) hb, fun e => by have h1 := Hlt b e.symm; have h2 : _ ≤ b := hb; (try simp at h2); omega⟩) hrel
   obtain ⟨_, _, rfl, ⟨_, _, rfl, _⟩, ⟨_, _, rfl, _⟩⟩ := hrel
   have Hown1 := Lib.hid hown1
   have Hx2 := Lib.hid hx2
   have hsz := hx2.size
   clear hown1 Hown hx1 hx2 Hlt
   simp only [pack]
   go_wp2_with (at_builtin; refine own_append methodE w.heap.size rfl _ _ 39 74 88 rfl slice39 _ _ (f xs[j]) _ rfl rfl Hown1.out Hrel.out ?c1 ?c2 ?c3 ?_)
   case c1 => exact hsz
   case c2 => simp; omega
   case c3 => decide
   intro v2 w2 hown2 hg2
   have hown2 : Own (New w) methodE w2 w.heap.size 74 v2 ((xs.map f).take (j + 1)) := by rw [take_map_snoc f xs j hlt]; exact hown2
   have hx3 : Ext w w2 := Below.grown Hx2.out hg2 hsz (fun k hk => (Hown1.out.lt k hk).1)
   clear hg2 Hown1 Hx2 Hrel
   go_wp2_with fail
   go_roundw
   case rel => exact ⟨j + 1, by omega, by go_num, hx3, hown2⟩
   case measure => simp [intOf]; omega
  ·go_wp2_with fail
   go_ret
   refine ⟨_, rfl, ?_, hx⟩
   have : (xs.map f).take j = xs.map f := List.take_of_length_le (by simp; omega)
   rw [this] at hown
   exact hown.sl (fun b hb => hb)
end Go.Proofs.YtldnjnnhfeobdaaGreatDoor
/- Contracts: equality of overrides, kinds, indices, and the small function values. Conditions: lengths below 2^20. -/
namespace Go.Proofs.YtldnjnnhfeobdaaGreatDoor
open Go.RowKit Go.Shelf
theorem neq_over (a b c d : ByteArray) (w : World) : (binOp .neq 117 (.agg #[.string a, .string b]) (.agg #[.string c, .string d])).run Tryz.prog w = .ok (.bool (!(a.toList == c.toList && b.toList == d.toList))) w := by
 have u9 := Tryz.underlying9
 have a9 := Tryz.isAgg9
 have z9 := Tryz.sizeOf9
 have hS : Tryz.prog.underlying 117 = some (.struct (Tryz.prog.fieldsOf 117)) := by kernel_rfl
 have hp : Tryz.prog.stoodInHeld 117 = false := by kernel_rfl
 rw [run_neq_struct, show (10000 : Nat) = 9999 + 1 from rfl, run_equalIn_agg w 9999 117 _ _ hS hp]
 simp only [Program.fieldsOf, Tryz.underlying117]
 go_simp
 by_cases h1 : a.toList = c.toList <;> by_cases h2 : b.toList = d.toList <;> simp [h1, h2]
theorem guard117 (op : BinOp) (x y : Operand) (xs ys : Array Value) (w : World) : (eqGuard op 117 x y (.agg xs) (.agg ys)).run Tryz.prog w = .ok () w := run_eqGuard_agg w op 117 x y xs ys (by kernel_rfl)
/-- 'xs[i] = xs[i]' by names and procedures -/
def overEq (x y : Over) : Bool := x.name.toList == y.name.toList && x.proc.toList == y.proc.toList
set_option maxRecDepth 100000 in
set_option maxHeartbeats 2000000 in
theorem equal_over (w : World) (v u : Value) (xs ys : List Over) (hv : Sl overE w v xs) (hu : Sl overE w u ys) (hn : xs.length ≤ 1048576) (hm : ys.length ≤ 1048576) :
  Calls Tryz.prog 84 #[v, u] w (Ret w (.bool (eqF overEq xs ys))) := by
 obtain ⟨A, cap, rfl, hs⟩ := hv.over
 obtain ⟨B, cbp, rfl, ht⟩ := hu.over
 have Hs := Lib.hid hs
 have Ht := Lib.hid ht
 clear hs hv ht hu
 by_cases hl : xs.length = ys.length
 ·have Hl := Lib.hid hl
  have hb : ((xs.length : Int) != (ys.length : Int)) = false := by simp [hl]
  have hle : xs.length ≤ ys.length := by omega
  clear hl
  go_enter Tryz.func84, Tryz.ntmps84
  go_wp2_with fail
  go_loopw [13] (fun k wr => ∃ j : Nat, j ≤ xs.length ∧ k = .int .i64 j ∧ Ext w wr ∧ Hid (∀ i (h : i < xs.length) (h' : i < ys.length), i < j → overEq xs[i] ys[i] = true)) (fun k _ => xs.length - (intOf k).toNat)
  case atStart => exact ⟨0, by omega, by simp, Ext.refl _, fun i _ _ h => by omega⟩
  case round =>
   obtain ⟨j, hj, rfl, hx, hno⟩ := hrel
   by_cases hlt : j < xs.length
   ·have hlt' : j < ys.length := by omega
    obtain ⟨b, off, rfl, h0, h1⟩ := Hs.out j hlt
    obtain ⟨c, off2, rfl, g0, g1⟩ := Ht.out j hlt'
    have hb1 := cell_lt (hx.cell h0)
    have hb2 := cell_lt (hx.cell g0)
    have h0 := hx.cell h0
    have h1 := hx.cell h1
    have g0 := hx.cell g0
    have g1 := hx.cell g1
    have i0 : (0 : Int) ≤ (j : Int) := by omega
    have i1 : (j : Int) < (xs.length : Int) := by omega
    have i2 : (j : Int) < (ys.length : Int) := by omega
    cases hpj : overEq xs[j] ys[j]
    ·have Hpj := Lib.hid hpj
     have g117 := fun x y xs ys w => guard117 .neq x y xs ys w
     have hne : ∀ w, (binOp .neq 117 (.agg #[.string xs[j].name, .string xs[j].proc]) (.agg #[.string ys[j].name, .string ys[j].proc])).run Tryz.prog w = .ok (.bool true) w := fun w => by
      rw [neq_over]; have h := hpj; simp only [overEq] at h; rw [h]; rfl
     clear hpj
     go_wp2_with fail
     go_quiet (fail)
     go_wp2_with fail
     go_ret
     exact ⟨by rw [eqF_no hlt hlt' Hpj.out]; rfl, hx.drewN _⟩
    ·have Hpj := Lib.hid hpj
     have g117 := fun x y xs ys w => guard117 .neq x y xs ys w
     have hne : ∀ w, (binOp .neq 117 (.agg #[.string xs[j].name, .string xs[j].proc]) (.agg #[.string ys[j].name, .string ys[j].proc])).run Tryz.prog w = .ok (.bool false) w := fun w => by
      rw [neq_over]; have h := hpj; simp only [overEq] at h; rw [h]; rfl
     clear hpj
     go_wp2_with fail
     go_quiet (fail)
     go_wp2_with fail
     go_roundw
     case rel => exact ⟨j + 1, by omega, by go_num, hx.drewN _, fun i h h' hi => by
       by_cases e : i = j
       ·subst e; exact Hpj.out
       ·exact hno.out i h h' (by omega)⟩
     case measure => simp [intOf]; omega
   ·go_wp2_with fail
    go_ret
    exact ⟨by rw [eqF_yes Hl.out hlt hno.out]; rfl, hx⟩
 ·have Hl := Lib.hid hl
  have hb : ((xs.length : Int) != (ys.length : Int)) = true := by simp; omega
  clear hl
  go_enter Tryz.func84, Tryz.ntmps84
  go_wp2_with fail
  go_ret
  exact ⟨by rw [eqF_len Hl.out]; rfl, Ext.refl _⟩
def hasSuperB (k : Int) : Bool := decide (k = 12 ∨ k = 13)
theorem hasSuper_any (n : Int) (w : World) : Calls Tryz.prog 63 #[.int .u8 n] w fun e w' => e = .returned (.bool (hasSuperB n)) ∧ w = w' := by
 by_cases h1 : n = 12 <;> by_cases h2 : n = 13
 all_goals (first | (exfalso; omega) | skip)
 all_goals
  have h1' : (n == 12) = decide (n = 12) := by rw [Bool.eq_iff_iff]; simp
  have h2' : (n == 13) = decide (n = 13) := by rw [Bool.eq_iff_iff]; simp
  simp only [h1, h2, decide_true, decide_false] at h1' h2'
  have H1 := Lib.hid h1
  have H2 := Lib.hid h2
  (try subst h1)
  (try subst h2)
  go_enter Tryz.func63, Tryz.ntmps63
  go_wp2
  go_ret
  exact ⟨by have := H1.out; have := H2.out; simp_all [hasSuperB], rfl⟩
def hasB (n : Nat) (i : Int) : Bool := inB i 0 ((n : Int) - 1)
set_option maxRecDepth 100000 in
theorem has_any (w : World) (A : Option Addr) (n cap : Nat) (i : Int) (hn : n ≤ 1048576) :
  Calls Tryz.prog 85 #[.agg #[.slice A n cap], .int .i64 i] w (Ret w (.bool (hasB n i))) := by
 go_enter Tryz.func85, Tryz.ntmps85
 go_wp2_with fail
 refine (in_any _ _ _ _).mono ?_
 rintro e w' ⟨rfl, rfl⟩
 go_wp2_with fail
 go_ret
 exact ⟨rfl, (Ext.refl _).alloc _⟩
set_option maxRecDepth 100000 in
theorem agree1_any (w : World) (p q : Part) :
  Calls Tryz.prog 105 #[.agg #[.string p.name, .int .i64 p.type], .agg #[.string q.name, .int .i64 q.type]] w (Ret w (.bool (p.name.toList == q.name.toList))) := by
 cases h : p.name.toList == q.name.toList
 all_goals
  go_enter Tryz.func105, Tryz.ntmps105
  go_wp2_with fail
  go_ret
  exact ⟨rfl, ((Ext.refl _).alloc _).alloc _⟩
end Go.Proofs.YtldnjnnhfeobdaaGreatDoor
/- Contracts: symbols, kinds, methods that agree, names out of records. Conditions: lengths below 2^20; the two package variables of Go's library that are read hold what they are laid with. -/
namespace Go.Proofs.YtldnjnnhfeobdaaGreatDoor
open Go.RowKit Go.Shelf
/-- what Go's library has laid -/
structure Glob (w : World) : Prop where
 maxLen : ∃ m, w.cell? ⟨0, 0, none⟩ = some (.int .i64 m)
 tab : Lib.TabIs Tryz.prog w "internal/strconv.uint64pow10" .u64 Lib.pow10Tab
theorem ext_var {w w' : World} (h : Ext w w') {name : String} {c : Array Value} (hv : w.var? Tryz.prog name = some c) : w'.var? Tryz.prog name = some c := by
 unfold World.var? at hv ⊢
 obtain ⟨g, hg, hc⟩ := Option.bind_eq_some_iff.1 hv
 rw [hg, Option.bind_some]
 cases ho : w.heap[g]? with
 | none => rw [ho] at hc; simp at hc
 | some o => rw [ho] at hc; rw [h.heap ho]; exact hc
theorem Glob.mono {w w' : World} (h : Glob w) (hx : Ext w w') : Glob w' := by
 obtain ⟨⟨m, hm⟩, ht⟩ := h
 exact ⟨⟨m, hx.cell hm⟩, ext_var hx ht⟩
def cutB (s sep : List UInt8) : List UInt8 × List UInt8 × Bool := Lib.cut s sep
def isSymbolB (s : ByteArray) : Bool := (cutB s.data.toList [46]).2.2 && (isNameB ⟨(cutB s.data.toList [46]).1.toArray⟩ && isNameB ⟨(cutB s.data.toList [46]).2.1.toArray⟩)
theorem cutB_le (s sep : List UInt8) : (cutB s sep).1.length ≤ s.length ∧ (cutB s sep).2.1.length ≤ s.length := by
 unfold cutB Lib.cut
 split
 ·exact ⟨by simp [List.length_take]; omega, by simp⟩
 ·exact ⟨Nat.le_refl _, by simp⟩
theorem size_mk (l : List UInt8) : (⟨l.toArray⟩ : ByteArray).size = l.length := by show l.toArray.size = _; simp
theorem toList_length (s : ByteArray) : s.data.toList.length = s.size := by simp
set_option maxRecDepth 100000 in
set_option maxHeartbeats 1000000 in
theorem isSymbol_any (s : ByteArray) (w : World) (hs : s.size ≤ 1048576) (hG : Glob w) : Calls Tryz.prog 29 #[.string s] w (Ret w (.bool (isSymbolB s))) := by
 obtain ⟨m, hm⟩ := hG.maxLen
 have hcut := Tryz.strings_Cut s ⟨#[46]⟩ m w (by omega) hm
 have hle := cutB_le s.data.toList [46]
 rw [toList_length] at hle
 change Calls Tryz.prog 70 _ w (fun e w' => e = .returned (.tuple #[.string ⟨(cutB s.data.toList [46]).1.toArray⟩, .string ⟨(cutB s.data.toList [46]).2.1.toArray⟩, .bool (cutB s.data.toList [46]).2.2]) ∧ ∃ n, w' = w.drewN n) at hcut
 unfold isSymbolB
 have h1 : (⟨(cutB s.data.toList [46]).1.toArray⟩ : ByteArray).size ≤ 1048576 := by rw [size_mk]; omega
 have h2 : (⟨(cutB s.data.toList [46]).2.1.toArray⟩ : ByteArray).size ≤ 1048576 := by rw [size_mk]; omega
 generalize (⟨(cutB s.data.toList [46]).1.toArray⟩ : ByteArray) = u at hcut h1 ⊢
 generalize (⟨(cutB s.data.toList [46]).2.1.toArray⟩ : ByteArray) = n at hcut h2 ⊢
 generalize (cutB s.data.toList [46]).2.2 = d at hcut ⊢
 have Hc := Lib.hid hcut
 have h3 := fun w => isName_any u w h1
 have h4 := fun w => isName_any n w h2
 generalize isNameB u = bu at h3 ⊢
 generalize isNameB n = bn at h4 ⊢
 have H3 := Lib.hid h3
 have H4 := Lib.hid h4
 clear hcut hle hm hG h1 h2 h3 h4 hs
 cases d
 ·go_enter Tryz.func29, Tryz.ntmps29
  go_wp2_with fail
  refine Hc.out.mono ?_
  rintro e w1 ⟨rfl, n1, rfl⟩
  go_wp2_with fail
  go_ret
  exact ⟨rfl, (Ext.refl _).drewN _⟩
 ·cases bu
  ·go_enter Tryz.func29, Tryz.ntmps29
   go_wp2_with fail
   refine Hc.out.mono ?_
   rintro e w1 ⟨rfl, n1, rfl⟩
   go_wp2_with fail
   refine (H3.out _).mono ?_
   rintro e w1 ⟨rfl, hx1⟩
   go_wp2_with fail
   go_ret
   exact ⟨rfl, ((Ext.refl _).drewN _).trans hx1⟩
  ·go_enter Tryz.func29, Tryz.ntmps29
   go_wp2_with fail
   refine Hc.out.mono ?_
   rintro e w1 ⟨rfl, n1, rfl⟩
   go_wp2_with fail
   refine (H3.out _).mono ?_
   rintro e w1 ⟨rfl, hx1⟩
   go_wp2_with fail
   refine (H4.out _).mono ?_
   rintro e w2 ⟨rfl, hx2⟩
   go_wp2_with fail
   go_ret
   exact ⟨rfl, (((Ext.refl _).drewN _).trans hx1).trans hx2⟩
/-! ### slices.Index and Contains at bytes -/
set_option maxRecDepth 100000 in
set_option maxHeartbeats 1000000 in
theorem index_u8 (w : World) (v : Value) (xs : List Int) (x : Int) (hv : Sl byteE w v xs) (hn : xs.length ≤ 1048576) :
  Calls Tryz.prog 245 #[v, .int .u8 x] w (Ret w (.int .i64 (idxF (fun y => x == y) xs))) := by
 obtain ⟨A, cap, rfl, hs⟩ := hv.byte
 have Hs := Lib.hid hs
 clear hs hv
 go_enter Tryz.func245, Tryz.ntmps245
 go_wp2_with fail
 go_loopw [8] (fun k wr => ∃ j : Nat, j ≤ xs.length ∧ k = .int .i64 j ∧ Ext w wr ∧ Hid (∀ i (h : i < xs.length), i < j → (fun y => x == y) xs[i] = false)) (fun k _ => xs.length - (intOf k).toNat)
 case atStart => exact ⟨0, by omega, by simp, Ext.refl _, fun i _ h => by omega⟩
 case round =>
  obtain ⟨j, hj, rfl, hx, hno⟩ := hrel
  by_cases hlt : j < xs.length
  ·obtain ⟨b, off, rfl, h0⟩ := Hs.out j hlt
   have h0 := hx.cell h0
   cases hpj : (x == xs[j])
   ·have Hpj := Lib.hid hpj
    go_wp2_with fail
    go_roundw
    case rel => exact ⟨j + 1, by omega, by go_num, hx, fun i h hi => by
      by_cases e : i = j
      ·subst e; exact Hpj.out
      ·exact hno.out i h (by omega)⟩
    case measure => simp [intOf]; omega
   ·have Hpj := Lib.hid hpj
    go_wp2_with fail
    go_ret
    exact ⟨by rw [idxF_found hlt hno.out Hpj.out]; rfl, hx⟩
  ·go_wp2_with fail
   go_ret
   exact ⟨by rw [idxF_none hlt hno.out]; rfl, hx⟩
set_option maxRecDepth 100000 in
theorem contains_u8 (w : World) (v : Value) (xs : List Int) (x : Int) (hv : Sl byteE w v xs) (hn : xs.length ≤ 1048576) :
  Calls Tryz.prog 229 #[v, .int .u8 x] w (Ret w (.bool (xs.any fun y => x == y))) := by
 have hc := index_u8 w v xs x hv hn
 rw [← idxF_any]
 clear hv
 generalize idxF (fun y => x == y) xs = r at hc ⊢
 have Hc := Lib.hid hc
 clear hc
 go_enter Tryz.func229, Tryz.ntmps229
 go_wp2_with fail
 refine Hc.out.mono ?_
 rintro e w1 ⟨rfl, hx1⟩
 go_wp2_with fail
 go_ret
 exact ⟨rfl, hx1⟩
/-- an index of a type of some kinds -/
def overB (g : Graph) (i : Int) (kinds : List Int) : Bool := hasB g.length i && kinds.any fun y => (g[i.toNat]?.map (·.kind)).getD 0 == y
theorem hasB_iff {n : Nat} {i : Int} : hasB n i = true ↔ 0 ≤ i ∧ i < n := by
 simp only [hasB, inB, Bool.and_eq_true, decide_eq_true_eq]; omega
set_option maxRecDepth 100000 in
set_option maxHeartbeats 1000000 in
theorem over_any (w : World) (gv v : Value) (g : Graph) (i : Int) (kinds : List Int) (hg : Sl tyE w gv g) (hv : Sl byteE w v kinds) (hn : g.length ≤ 1048576) (hk : kinds.length ≤ 1048576) :
  Calls Tryz.prog 196 #[.agg #[gv], .int .i64 i, v] w (Ret w (.bool (overB g i kinds))) := by
 obtain ⟨A, cap, rfl, hs⟩ := hg.ty
 have hh := fun w => has_any w A g.length cap i hn
 unfold overB
 have Hv := Lib.hid hv
 have Hg := Lib.hid hg
 clear hg hv
 cases hb : hasB g.length i
 ·rw [hb] at hh
  have Hh := Lib.hid hh
  clear hh hs hb
  go_enter Tryz.func196, Tryz.ntmps196
  go_wp2_with fail
  refine (Hh.out _).mono ?_
  rintro e w1 ⟨rfl, hx1⟩
  go_wp2_with fail
  go_ret
  exact ⟨rfl, ((Ext.refl _).alloc _).trans hx1⟩
 ·rw [hb] at hh
  have Hh := Lib.hid hh
  obtain ⟨h0, h1⟩ := hasB_iff.1 hb
  obtain ⟨j, rfl⟩ := Int.eq_ofNat_of_zero_le h0
  have hlt : j < g.length := by omega
  obtain ⟨b, off, vp, vm, vo, rfl, hat, hof⟩ := hs j hlt
  have hc0 := hat.c0
  have hkind : (g[(j : Int).toNat]?.map (·.kind)).getD 0 = g[j].kind := by simp [List.getElem?_eq_getElem hlt]
  rw [hkind]
  have Hcon := Lib.hid (fun w' (hx : Ext w w') => contains_u8 w' v kinds g[j].kind (Hv.out.mono hx) hk)
  generalize (kinds.any fun y => g[j].kind == y) = r at Hcon ⊢
  clear hh hs hb h0 hof hat hkind
  go_enter Tryz.func196, Tryz.ntmps196
  go_wp2_with fail
  refine (Hh.out _).mono ?_
  rintro e w1 ⟨rfl, hx1⟩
  have hx2 := ((Ext.refl w).alloc _).trans hx1
  have hc1 := hx2.cell hc0
  have hc2 := hx1.cell (World.cell?_alloc_new (w := w) #[.slice (some ⟨b, off, none⟩) g.length cap] 77 0)
  have hi1 : (0 : Int) ≤ (j : Int) := by omega
  clear hc0
  go_wp2_with fail
  refine (Hcon.out _ hx2).mono ?_
  rintro e w2 ⟨rfl, hx3⟩
  go_wp2_with fail
  go_ret
  exact ⟨rfl, hx2.trans hx3⟩
end Go.Proofs.YtldnjnnhfeobdaaGreatDoor
/- Contracts: methods that agree; what of a type is plain; names out of records. Conditions: lengths below 2^20. -/
namespace Go.Proofs.YtldnjnnhfeobdaaGreatDoor
open Go.RowKit Go.Shelf
def strEq (x y : ByteArray) : Bool := x.toList == y.toList
def sameMethodB (a b : Method) : Bool :=
 strEq a.name b.name && (strEq a.proc b.proc && (decide (a.args.length = b.args.length) && ((decide (a.result < 0) == decide (b.result < 0)) && eqF strEq a.raises b.raises)))
set_option maxRecDepth 100000 in
set_option maxHeartbeats 4000000 in
theorem sameMethods_any (w : World) (a b : Method) (A B A2 B2 : Option Addr) (c d c2 d2 : Nat)
  (h1 : Sl strE w (.slice A2 a.raises.length c2) a.raises) (h2 : Sl strE w (.slice B2 b.raises.length d2) b.raises) (hn : a.raises.length ≤ 1048576) (hm : b.raises.length ≤ 1048576) :
  Calls Tryz.prog 106 #[.agg #[.string a.name, .slice A a.args.length c, .int .i64 a.result, .slice A2 a.raises.length c2, .string a.proc], .agg #[.string b.name, .slice B b.args.length d, .int .i64 b.result, .slice B2 b.raises.length d2, .string b.proc]] w
   (Ret w (.bool (sameMethodB a b))) := by
 have he := fun (w' : World) (hx : Ext w w') => equal_str w' _ _ _ _ (h1.mono hx) (h2.mono hx) hn hm
 change ∀ w', _ → Calls _ _ _ _ (Ret w' (.bool (eqF strEq a.raises b.raises))) at he
 have hr0 : sameMethodB a b = (strEq a.name b.name && (strEq a.proc b.proc && (decide (a.args.length = b.args.length) && ((decide (a.result < 0) == decide (b.result < 0)) && eqF strEq a.raises b.raises)))) := rfl
 rw [hr0]
 clear hr0 h1 h2
 generalize eqF strEq a.raises b.raises = r at he ⊢
 have He := Lib.hid he
 clear he hn hm
 cases c1 : strEq a.name b.name
 ·have c1' : (a.name.toList == b.name.toList) = false := c1
  clear c1
  go_enter Tryz.func106, Tryz.ntmps106
  go_wp2_with fail
  go_ret
  exact ⟨rfl, ((Ext.refl _).alloc _).alloc _⟩
 ·have c1' : (a.name.toList == b.name.toList) = true := c1
  clear c1
  cases c2' : strEq a.proc b.proc
  ·have c3' : (a.proc.toList == b.proc.toList) = false := c2'
   clear c2'
   go_enter Tryz.func106, Tryz.ntmps106
   go_wp2_with fail
   go_ret
   exact ⟨rfl, ((Ext.refl _).alloc _).alloc _⟩
  ·have c3' : (a.proc.toList == b.proc.toList) = true := c2'
   clear c2'
   by_cases c4 : a.args.length = b.args.length
   ·have c5 : ((a.args.length : Int) == (b.args.length : Int)) = true := by simp [c4]
    have C4 := Lib.hid c4
    rw [decide_eq_true c4]
    clear c4
    by_cases p : a.result < 0 <;> by_cases q : b.result < 0
    all_goals
     have P := Lib.hid p
     have Q := Lib.hid q
     (first | rw [decide_eq_true p] | rw [decide_eq_false p])
     (first | rw [decide_eq_true q] | rw [decide_eq_false q])
    ·go_enter Tryz.func106, Tryz.ntmps106
     go_wp2_with fail
     refine (He.out _ (((Ext.refl _).alloc _).alloc _)).mono ?_
     rintro e w1 ⟨rfl, hx1⟩
     go_wp2_with fail
     go_ret
     exact ⟨rfl, (((Ext.refl _).alloc _).alloc _).trans hx1⟩
    ·go_enter Tryz.func106, Tryz.ntmps106
     go_wp2_with fail
     go_ret
     exact ⟨rfl, ((Ext.refl _).alloc _).alloc _⟩
    ·go_enter Tryz.func106, Tryz.ntmps106
     go_wp2_with fail
     go_ret
     exact ⟨rfl, ((Ext.refl _).alloc _).alloc _⟩
    ·go_enter Tryz.func106, Tryz.ntmps106
     go_wp2_with fail
     refine (He.out _ (((Ext.refl _).alloc _).alloc _)).mono ?_
     rintro e w1 ⟨rfl, hx1⟩
     go_wp2_with fail
     go_ret
     exact ⟨rfl, (((Ext.refl _).alloc _).alloc _).trans hx1⟩
   ·have c5 : ((a.args.length : Int) == (b.args.length : Int)) = false := by simp; omega
    rw [decide_eq_false c4]
    clear c4
    go_enter Tryz.func106, Tryz.ntmps106
    go_wp2_with fail
    go_ret
    exact ⟨rfl, ((Ext.refl _).alloc _).alloc _⟩
/-- a type as it stands as a value -/
def tyV (t : Ty) (vp vm vo : Value) : Value := .agg #[.int .u8 t.kind, .int .i64 t.low, .int .i64 t.high, .bool t.branded, .string t.brand, .string t.opaq, .int .i64 t.super, vp, vm, vo]
def plainV (t : Ty) : Value := .agg #[.int .u8 t.kind, .int .i64 t.low, .int .i64 t.high, .bool t.branded, .string t.brand, .string t.opaq, .int .i64 0]
set_option maxRecDepth 100000 in
set_option maxHeartbeats 1000000 in
theorem plainOf_any (w : World) (t : Ty) (A B C : Option Addr) (a b c a' b' c' : Nat) :
  Calls Tryz.prog 78 #[.agg #[.int .u8 t.kind, .int .i64 t.low, .int .i64 t.high, .bool t.branded, .string t.brand, .string t.opaq, .int .i64 t.super, .slice A a a', .slice B b b', .slice C c c']] w (Ret w (plainV t)) := by
 go_enter Tryz.func78, Tryz.ntmps78
 go_wp2_with fail
 exact bodyPost_ret (v := plainV t) (by simp [results, Tryz.results78, go_sem, plainV]) rfl ⟨rfl, ((Ext.refl _).alloc _).alloc _⟩
/-! ### the names out of records -/
set_option maxRecDepth 100000 in
theorem name193 (w : World) (a : ByteArray) (n : Int) : Calls Tryz.prog 193 #[.agg #[.string a, .int .i64 n]] w (Ret w (.string a)) := by
 go_enter Tryz.func193, Tryz.ntmps193
 go_wp2_with fail
 go_ret
 exact ⟨rfl, (Ext.refl _).alloc _⟩
set_option maxRecDepth 100000 in
theorem name194 (w : World) (a : ByteArray) (n : Int) : Calls Tryz.prog 194 #[.agg #[.string a, .int .i64 n]] w (Ret w (.string a)) := by
 go_enter Tryz.func194, Tryz.ntmps194
 go_wp2_with fail
 go_ret
 exact ⟨rfl, (Ext.refl _).alloc _⟩
set_option maxRecDepth 100000 in
theorem name223 (w : World) (a b : ByteArray) : Calls Tryz.prog 223 #[.agg #[.string a, .string b]] w (Ret w (.string a)) := by
 go_enter Tryz.func223, Tryz.ntmps223
 go_wp2_with fail
 go_ret
 exact ⟨rfl, (Ext.refl _).alloc _⟩
set_option maxRecDepth 100000 in
theorem name221 (w : World) (a b : ByteArray) (A B : Option Addr) (n m k l : Nat) (r : Int) : Calls Tryz.prog 221 #[.agg #[.string a, .slice A n m, .int .i64 r, .slice B k l, .string b]] w (Ret w (.string a)) := by
 go_enter Tryz.func221, Tryz.ntmps221
 go_wp2_with fail
 go_ret
 exact ⟨rfl, (Ext.refl _).alloc _⟩
theorem res_str {w : World} {s : ByteArray} {f : Nat} {args : Array Value} (h : Calls Tryz.prog f args w (Ret w (.string s))) : Calls Tryz.prog f args w (RetP w (Res strE w s)) :=
 h.mono fun e w' ⟨he, hx⟩ => ⟨_, he, ⟨[.string s], rfl, rfl⟩, hx⟩
theorem map193 (w : World) (xs : List Part) : MapP partE strE w 193 #[] xs Part.name :=
 ⟨enters_of Tryz.func193 (by kernel_rfl) rfl, by rintro x _ w' A hx ⟨cs, rfl, rfl⟩; exact res_str (name193 w' x.name x.type)⟩
theorem map194 (w : World) (xs : List Part) : MapP partE strE w 194 #[] xs Part.name :=
 ⟨enters_of Tryz.func194 (by kernel_rfl) rfl, by rintro x _ w' A hx ⟨cs, rfl, rfl⟩; exact res_str (name194 w' x.name x.type)⟩
theorem map223 (w : World) (xs : List Over) : MapP overE strE w 223 #[] xs Over.name :=
 ⟨enters_of Tryz.func223 (by kernel_rfl) rfl, by rintro x _ w' A hx ⟨cs, rfl, rfl⟩; exact res_str (name223 w' x.name x.proc)⟩
theorem map221 (w : World) (xs : List Method) : MapP methodE strE w 221 #[] xs Method.name :=
 ⟨enters_of Tryz.func221 (by kernel_rfl) rfl, by
  rintro x _ w' A hx ⟨cs, ⟨va, vr, rfl, ⟨_, _, rfl, _⟩, ⟨_, _, rfl, _⟩⟩, rfl⟩
  exact res_str (name221 w' _ _ _ _ _ _ _ _ _)⟩
end Go.Proofs.YtldnjnnhfeobdaaGreatDoor
/- A map of the call's own, told as a function from keys to values. Keys: strings, ints, pairs of ints. No condition. -/
namespace Go.Proofs.YtldnjnnhfeobdaaGreatDoor
open Go.RowKit Go.Shelf
/-- how keys of type kt stand as values -/
structure KeyEnc (P : Program) (kt : TypeId) (κ : Type) where
 enc : κ → Value
 inj : ∀ a b, enc a = enc b → a = b
 check : ∀ empty w k, (Instr.checkKey empty 10000 kt (enc k)).run P w = .ok () w
 find : ∀ w k (es : List MapEntry), (∀ e ∈ es, ∃ k', e.key = enc k') → ∃ r, (Instr.findKey kt (enc k) es).run P w = .ok r w ∧
  (match r with | none => ∀ e ∈ es, e.key ≠ enc k | some (i, v) => ∃ e, es[i]? = some e ∧ e.key = enc k ∧ e.val = v)
 stays : ∀ w k, (Instr.keyThatStays (enc k) (enc k)).run P w = .ok (enc k) w
theorem find_now (P : Program) (kt : TypeId) (d : TypeDesc) (hd : P.underlying kt = some d) {κ : Type} (enc : κ → Value)
  (hs : ∀ a b, (Instr.sameNow d (enc a) (enc b) = some true ∧ enc a = enc b) ∨ (Instr.sameNow d (enc a) (enc b) = some false ∧ enc a ≠ enc b)) :
  ∀ w k (es : List MapEntry), (∀ e ∈ es, ∃ k', e.key = enc k') → ∃ r, (Instr.findKey kt (enc k) es).run P w = .ok r w ∧
   (match r with | none => ∀ e ∈ es, e.key ≠ enc k | some (i, v) => ∃ e, es[i]? = some e ∧ e.key = enc k ∧ e.val = v) := by
 intro w k es hes
 have key : ∀ (l : List MapEntry) (i : Nat), (∀ e ∈ l, ∃ k', e.key = enc k') → ∃ r, Instr.findNow d (enc k) l i = some r ∧
   (match r with | none => ∀ e ∈ l, e.key ≠ enc k | some (j, v) => ∃ m e, j = i + m ∧ l[m]? = some e ∧ e.key = enc k ∧ e.val = v) := by
  intro l
  induction l with
  | nil => intro i _; exact ⟨none, rfl, by simp⟩
  | cons e l ih =>
   intro i hl
   obtain ⟨k', hk'⟩ := hl e (by simp)
   rcases hs k k' with ⟨h1, h2⟩ | ⟨h1, h2⟩
   ·refine ⟨some (i, e.val), ?_, 0, e, rfl, rfl, by rw [hk', h2], rfl⟩
    simp only [Instr.findNow, hk', h1]
   ·obtain ⟨r, hr, hm⟩ := ih (i + 1) (fun e he => hl e (by simp [he]))
    refine ⟨r, ?_, ?_⟩
    ·simp only [Instr.findNow, hk', h1, hr]
    ·cases r with
     | none =>
      intro e' he'
      rcases List.mem_cons.1 he' with rfl | he'
      ·rw [hk']; exact fun h => h2 h.symm
      ·exact hm e' he'
     | some q =>
      obtain ⟨j, v⟩ := q
      obtain ⟨m, e', h1, h2, h3⟩ := hm
      exact ⟨m + 1, e', by omega, by simpa using h2, h3⟩
 obtain ⟨r, hr, hm⟩ := key es 0 hes
 refine ⟨r, ?_, ?_⟩
 ·simp [Instr.findKey, run_underlying hd, hr]
 ·cases r with
  | none => exact hm
  | some q =>
   obtain ⟨j, v⟩ := q
   obtain ⟨m, e', h1, h2, h3⟩ := hm
   exact ⟨e', by rw [h1, Nat.zero_add]; exact h2, h3⟩
theorem find_asking (P : Program) (kt : TypeId) (d : TypeDesc) (hd : P.underlying kt = some d) {κ : Type} (enc : κ → Value) (hn : ∀ k (es : List MapEntry) e, es.head? = some e → (∃ k', e.key = enc k') → Instr.findNow d (enc k) es 0 = none)
  (hs : ∀ a b w, ((Op.equal kt (enc a) (enc b)).run P w = .ok true w ∧ enc a = enc b) ∨ ((Op.equal kt (enc a) (enc b)).run P w = .ok false w ∧ enc a ≠ enc b)) :
  ∀ w k (es : List MapEntry), (∀ e ∈ es, ∃ k', e.key = enc k') → ∃ r, (Instr.findKey kt (enc k) es).run P w = .ok r w ∧
   (match r with | none => ∀ e ∈ es, e.key ≠ enc k | some (i, v) => ∃ e, es[i]? = some e ∧ e.key = enc k ∧ e.val = v) := by
 intro w k es hes
 have key : ∀ (l : List MapEntry) (i : Nat), (∀ e ∈ l, ∃ k', e.key = enc k') → ∃ r, (Instr.findAsking kt (enc k) l i).run P w = .ok r w ∧
   (match r with | none => ∀ e ∈ l, e.key ≠ enc k | some (j, v) => ∃ m e, j = i + m ∧ l[m]? = some e ∧ e.key = enc k ∧ e.val = v) := by
  intro l
  induction l with
  | nil => intro i _; exact ⟨none, by simp [Instr.findAsking], by simp⟩
  | cons e l ih =>
   intro i hl
   obtain ⟨k', hk'⟩ := hl e (by simp)
   rcases hs k k' w with ⟨h1, h2⟩ | ⟨h1, h2⟩
   ·refine ⟨some (i, e.val), ?_, 0, e, rfl, rfl, by rw [hk', h2], rfl⟩
    simp [Instr.findAsking, hk', h1]
   ·obtain ⟨r, hr, hm⟩ := ih (i + 1) (fun e he => hl e (by simp [he]))
    refine ⟨r, ?_, ?_⟩
    ·simp [Instr.findAsking, hk', h1, hr]
    ·cases r with
     | none =>
      intro e' he'
      rcases List.mem_cons.1 he' with rfl | he'
      ·rw [hk']; exact fun h => h2 h.symm
      ·exact hm e' he'
     | some q =>
      obtain ⟨j, v⟩ := q
      obtain ⟨m, e', h1, h2, h3⟩ := hm
      exact ⟨m + 1, e', by omega, by simpa using h2, h3⟩
 cases es with
 | nil => exact ⟨none, by simp [Instr.findKey, run_underlying hd, Instr.findNow], by simp⟩
 | cons e l =>
  obtain ⟨r, hr, hm⟩ := key (e :: l) 0 hes
  refine ⟨r, ?_, ?_⟩
  ·have := hn k (e :: l) e rfl (hes e (by simp))
   simp [Instr.findKey, run_underlying hd, this, hr]
  ·cases r with
   | none => exact hm
   | some q =>
    obtain ⟨j, v⟩ := q
    obtain ⟨m, e', h1, h2, h3⟩ := hm
    exact ⟨e', by rw [h1, Nat.zero_add]; exact h2, h3⟩
/-- block b is a map whose entries are the pairs of f -/
def MapF {P : Program} {kt : TypeId} {κ : Type} (K : KeyEnc P kt κ) (w : World) (b : Nat) (f : κ → Option Value) : Prop :=
 ∃ es clock, w.heap[b]? = some (.map es clock) ∧ (∀ e ∈ es.toList, ∃ k, e.key = K.enc k ∧ f k = some e.val) ∧ (∀ k v, f k = some v → ∃ e ∈ es.toList, e.key = K.enc k) ∧
  (∀ i j (hi : i < es.size) (hj : j < es.size), es[i].key = es[j].key → i = j)
section
variable {P : Program} {kt : TypeId} {κ : Type} {K : KeyEnc P kt κ} {w : World} {b : Nat} {f : κ → Option Value}
theorem MapF.made (K : KeyEnc P kt κ) (w : World) : MapF K (w.alloc (.map #[] 0)) w.heap.size (fun _ => none) :=
 ⟨#[], 0, (MapKept.heap_alloc w _).1, by simp, by simp, by simp⟩
theorem MapF.ext {w' : World} (h : MapF K w b f) (hx : Ext w w') : MapF K w' b f := by
 obtain ⟨es, clock, hb, h1, h2⟩ := h
 exact ⟨es, clock, hx.heap hb, h1, h2⟩
theorem MapF.kept {w' : World} (h : MapF K w b f) (hb' : w'.heap[b]? = w.heap[b]?) : MapF K w' b f := by
 obtain ⟨es, clock, hb, h1, h2⟩ := h
 exact ⟨es, clock, hb'.trans hb, h1, h2⟩
theorem MapF.lt (h : MapF K w b f) : b < w.heap.size := by
 obtain ⟨es, clock, hb, _⟩ := h
 exact (Array.getElem?_eq_some_iff.1 hb).1
theorem MapF.lookup (h : MapF K w b f) {t e : TypeId} (ht : P.underlying t = some (.map kt e)) {z : Value} (hz : (zeroValue e).run P w = .ok z w) (k : κ) :
  (Instr.lookup t (.map (some b)) (K.enc k) false).run P w = .ok ((f k).getD z) w := by
 obtain ⟨es, clock, hb, h1, h2, _⟩ := h
 obtain ⟨r, hr, hm⟩ := K.find w k es.toList (fun e he => let ⟨k', h, _⟩ := h1 e he; ⟨k', h⟩)
 have hc := K.check es.isEmpty w k
 cases r with
 | none =>
  have hn : f k = none := by
   cases hf : f k with
   | none => rfl
   | some v => obtain ⟨e, he, hk⟩ := h2 k v hf; exact absurd hk (hm e he)
  simp [Instr.lookup, run_underlying ht, getObj, Sem.run, hb, hc, hr, hz, hn]
 | some q =>
  obtain ⟨i, v⟩ := q
  obtain ⟨e, he, hk, hv⟩ := hm
  obtain ⟨k', h3, h4⟩ := h1 e (List.mem_of_getElem? he)
  have : k' = k := K.inj _ _ (h3.symm.trans hk)
  subst this
  simp [Instr.lookup, run_underlying ht, getObj, Sem.run, hb, hc, hr, h4, hv]
/-- the map with one entry more, or another one -/
def put [DecidableEq κ] (f : κ → Option Value) (k : κ) (v : Value) : κ → Option Value := fun k' => if k' = k then some v else f k'
theorem MapF.update [DecidableEq κ] (h : MapF K w b f) {t e : TypeId} (ht : P.underlying t = some (.map kt e)) (k : κ) (v : Value) :
  ∃ w', (Instr.mapUpdate t (.map (some b)) (K.enc k) v).run P w = .ok () w' ∧ MapF K w' b (put f k v) ∧ w.grownBy w' (some b) := by
 obtain ⟨es, clock, hb, h1, h2, hd⟩ := h
 obtain ⟨r, hr, hm⟩ := K.find w k es.toList (fun e he => let ⟨k', h, _⟩ := h1 e he; ⟨k', h⟩)
 have hc := K.check false w k
 have hlt := (Array.getElem?_eq_some_iff.1 hb).1
 have hset : ∀ o, ({ w with heap := w.heap.setIfInBounds b o } : World).heap[b]? = some o := fun o => by simp [hlt]
 have hgrow : ∀ o, w.grownBy ({ w with heap := w.heap.setIfInBounds b o } : World) (some b) := fun o =>
  ⟨rfl, rfl, rfl, by simp, fun i _ hi => by
   have : b ≠ i := fun e => hi (by rw [e])
   simp [Array.getElem?_setIfInBounds, this]⟩
 cases r with
 | none =>
  refine ⟨_, ?_, ⟨es.push { key := K.enc k, val := v, born := clock }, clock + 1, hset _, ?_, ?_, ?_⟩, hgrow _⟩
  ·simp [Instr.mapUpdate, run_underlying ht, getObj, setObj, Sem.run, hb, hc, hr]
  ·intro e he
   simp only [Array.toList_push, List.mem_append, List.mem_singleton] at he
   rcases he with he | rfl
   ·obtain ⟨k', h3, h4⟩ := h1 e he
    refine ⟨k', h3, ?_⟩
    have : k' ≠ k := fun e' => hm e he (by rw [h3, e'])
    simp [put, this, h4]
   ·exact ⟨k, rfl, by simp [put]⟩
  ·intro k' v' hv
   by_cases e : k' = k
   ·subst e
    exact ⟨{ key := K.enc k', val := v, born := clock }, by simp, rfl⟩
   ·simp only [put, e, if_false] at hv
    obtain ⟨e', he', hk'⟩ := h2 k' v' hv
    exact ⟨e', by simp [he'], hk'⟩
  ·intro i j hi hj hij
   simp only [Array.size_push] at hi hj
   by_cases h3 : i < es.size <;> by_cases h4 : j < es.size
   ·rw [Array.getElem_push_lt h3, Array.getElem_push_lt h4] at hij
    exact hd i j h3 h4 hij
   ·have e4 : j = es.size := by omega
    subst e4
    rw [Array.getElem_push_lt h3, Array.getElem_push_eq] at hij
    exact absurd hij (hm es[i] (by simp))
   ·have e3 : i = es.size := by omega
    subst e3
    rw [Array.getElem_push_lt h4, Array.getElem_push_eq] at hij
    exact absurd hij.symm (hm es[j] (by simp))
   ·omega
 | some q =>
  obtain ⟨i, v0⟩ := q
  obtain ⟨e0, he0, hk0, hv0⟩ := hm
  have hst := K.stays w k
  have hi : i < es.size := by
   have := (List.getElem?_eq_some_iff.1 he0).1
   simpa using this
  have hget : es[i] = e0 := by
   have := (List.getElem?_eq_some_iff.1 he0).2
   simpa using this
  refine ⟨_, ?_, ⟨es.modify i (fun e => { e with key := K.enc k, val := v }), clock, hset _, ?_, ?_, ?_⟩, hgrow _⟩
  ·have hk : (((es[i]?).map (·.key)).getD (K.enc k)) = K.enc k := by rw [Array.getElem?_eq_getElem hi, hget]; exact hk0
   simp [Instr.mapUpdate, run_underlying ht, getObj, setObj, Sem.run, hb, hc, hr, hget, hi, hk0, hst]
  ·intro e he
   obtain ⟨j, hj, rfl⟩ := List.mem_iff_getElem.1 he
   have hj' : j < es.size := by simpa using hj
   simp only [Array.getElem_toList, Array.getElem_modify]
   split
   ·exact ⟨k, rfl, by simp [put]⟩
   ·rename_i hne
    obtain ⟨k', h3, h4⟩ := h1 es[j] (by simp)
    refine ⟨k', h3, ?_⟩
    have e : ¬ k' = k := by
     rintro rfl
     exact hne (hd i j hi hj' (by rw [hget, hk0, h3]))
    simp [put, e, h4]
  ·intro k' v' hv
   by_cases e : k' = k
   ·subst e
    refine ⟨{ es[i] with key := K.enc k', val := v }, ?_, rfl⟩
    rw [List.mem_iff_getElem]
    exact ⟨i, by simpa using hi, by simp⟩
   ·simp only [put, e, if_false] at hv
    obtain ⟨e', he', hk'⟩ := h2 k' v' hv
    obtain ⟨j, hj, rfl⟩ := List.mem_iff_getElem.1 he'
    have hj' : j < es.size := by simpa using hj
    refine ⟨es[j], ?_, hk'⟩
    rw [List.mem_iff_getElem]
    refine ⟨j, by simpa using hj', ?_⟩
    simp only [Array.getElem_toList, Array.getElem_modify]
    rw [if_neg]
    rintro rfl
    rw [Array.getElem_toList, hget, hk0] at hk'
    exact e (K.inj _ _ hk').symm
  ·have hsame : ∀ (m : Nat) (hm : m < es.size), ((es.modify i (fun e => { e with key := K.enc k, val := v }))[m]'(by simpa using hm)).key = es[m].key := by
    intro m hm
    simp only [Array.getElem_modify]
    split
    ·rename_i h; subst h; rw [hget, hk0]
    ·rfl
   intro m j hm hj hij
   have hm' : m < es.size := by simpa using hm
   have hj' : j < es.size := by simpa using hj
   rw [hsame m hm', hsame j hj'] at hij
   exact hd m j hm' hj' hij
end
/-! ### the keys that are used -/
theorem ba_toList_inj {a b : ByteArray} (h : a.toList = b.toList) : a = b := by
 rw [ByteArray.toList_eq, ByteArray.toList_eq] at h
 obtain ⟨⟨x⟩⟩ := a
 obtain ⟨⟨y⟩⟩ := b
 simp at h
 rw [h]
theorem ba_beq (a b : ByteArray) : (a == b) = decide (a = b) := by
 rw [beq_toListBytes, Bool.eq_iff_iff]
 simp only [beq_iff_eq, decide_eq_true_eq]
 exact ⟨ba_toList_inj, fun h => by rw [h]⟩
def strK {P : Program} {kt : TypeId} (h : P.underlying kt = some .string) : KeyEnc P kt ByteArray where
 enc s := .string s
 inj := by rintro a b h; injection h
 check := fun empty w k => by
  obtain ⟨d, hd⟩ : ∃ d, (10000 : Nat) = d + 1 := ⟨9999, rfl⟩
  rw [hd]
  simp [Instr.checkKey, run_underlying h]
 find := find_now P kt .string h _ (fun a b => by
  by_cases e : a = b
  ·subst e; exact .inl ⟨by simp [Instr.sameNow, ba_beq], rfl⟩
  ·exact .inr ⟨by simp [Instr.sameNow, e, ba_beq], fun h => by injection h; contradiction⟩)
 stays := fun w k => by simp [Instr.keyThatStays, Instr.sameBits, ba_beq]
def intK {P : Program} {kt : TypeId} (h : P.underlying kt = some (.int .i64)) : KeyEnc P kt Int where
 enc n := .int .i64 n
 inj := by rintro a b h; injection h
 check := fun empty w k => by
  obtain ⟨d, hd⟩ : ∃ d, (10000 : Nat) = d + 1 := ⟨9999, rfl⟩
  rw [hd]
  simp [Instr.checkKey, run_underlying h]
 find := find_now P kt (.int .i64) h _ (fun a b => by
  by_cases e : a = b
  ·subst e; exact .inl ⟨by simp [Instr.sameNow], rfl⟩
  ·exact .inr ⟨by simp [Instr.sameNow, e], fun h => by injection h; contradiction⟩)
 stays := fun w k => by simp [Instr.keyThatStays, Instr.sameBits]
/-! ### at the operation -/
theorem wpList_lookup_F {P : Program} {kt : TypeId} {κ : Type} (K : KeyEnc P kt κ) {w : World} {ops : Array Oper} {rest : List Oper} {o : Oper} {a : Act} {Q : Exit → Act → World → Prop}
  (hg : o.guard = none) (m x : Operand) (t e : TypeId) (hop : o.op = Op.lookup t m x false) (ht : P.underlying t = some (.map kt e)) (z : Value) (hz : ∀ w, (zeroValue e).run P w = .ok z w)
  (b : Nat) (f : κ → Option Value) (k : κ) (hm : a.eval m = .map (some b)) (hx : a.eval x = K.enc k) (h : MapF K w b f)
  (hK : wpList P ops Q rest (a.put o.dst ((f k).getD z)) w) : wpList P ops Q (o :: rest) a w := by
 refine wpList_plain hg fun K' hK' => ?_
 have hrun := h.lookup ht (hz w) k
 unfold Oper.wp
 simp [execOp, hop, hm, hx, hrun, Result.andThen]
 exact hK' _ _ hK
theorem wpList_update_F {P : Program} {kt : TypeId} {κ : Type} [DecidableEq κ] (K : KeyEnc P kt κ) {w : World} {ops : Array Oper} {rest : List Oper} {o : Oper} {a : Act} {Q : Exit → Act → World → Prop}
  (hg : o.guard = none) (m x v : Operand) (t e : TypeId) (hop : o.op = Op.mapUpdate t m x v) (ht : P.underlying t = some (.map kt e))
  (b : Nat) (f : κ → Option Value) (k : κ) (hm : a.eval m = .map (some b)) (hx : a.eval x = K.enc k) (h : MapF K w b f)
  (hK : ∀ w', MapF K w' b (put f k (a.eval v)) → w.grownBy w' (some b) → wpList P ops Q rest (a.put o.dst undef) w') : wpList P ops Q (o :: rest) a w := by
 refine wpList_plain hg fun K' hK' => ?_
 obtain ⟨w', hrun, h1, h2⟩ := h.update ht k (a.eval v)
 unfold Oper.wp
 simp [execOp, hop, hm, hx, hrun, Result.andThen]
 exact hK' _ _ (hK w' h1 h2)
theorem wpList_insert_F {P : Program} {kt : TypeId} {κ : Type} [DecidableEq κ] (K : KeyEnc P kt κ) {w : World} {ops : Array Oper} {rest : List Oper} {o : Oper} {a : Act} {Q : Exit → Act → World → Prop}
  (hg : o.guard = none) (m x v : Operand) (t e : TypeId) (hop : o.op = Op.insert t m x v) (ht : P.underlying t = some (.map kt e))
  (b : Nat) (f : κ → Option Value) (k : κ) (hm : a.eval m = .map (some b)) (hx : a.eval x = K.enc k) (h : MapF K w b f)
  (hK : ∀ w', MapF K w' b (put f k (a.eval v)) → w.grownBy w' (some b) → wpList P ops Q rest (a.put o.dst undef) w') : wpList P ops Q (o :: rest) a w := by
 refine wpList_plain hg fun K' hK' => ?_
 obtain ⟨w', hrun, h1, h2⟩ := h.update ht k (a.eval v)
 unfold Oper.wp
 simp [execOp, hop, hm, hx, hrun, Result.andThen]
 exact hK' _ _ (hK w' h1 h2)
end Go.Proofs.YtldnjnnhfeobdaaGreatDoor
/- Contract: different (names that are names, and no two the same). Conditions: lengths below 2^20. -/
namespace Go.Proofs.YtldnjnnhfeobdaaGreatDoor
open Go.RowKit Go.Shelf
/-- names that are names, none of which is in seen or comes twice -/
def distinctFrom (seen : List ByteArray) : List ByteArray → Bool
 | [] => true
 | n :: r => if memB n seen then false else isNameB n && distinctFrom (seen ++ [n]) r
def differentB (l : List ByteArray) (most : Int) : Bool := distinctFrom [] l && decide ((l.length : Int) ≤ most)
def setF (seen : List ByteArray) : ByteArray → Option Value := fun s => if memB s seen then some (.bool true) else none
theorem setF_put (seen : List ByteArray) (n : ByteArray) : put (setF seen) n (.bool true) = setF (seen ++ [n]) := by
 funext s
 by_cases h : s = n
 ·subst h
  simp [put, setF, memB]
 ·have h' : ¬ n = s := fun e => h e.symm
  have e : memB s (seen ++ [n]) = memB s seen := by rw [memB_append]; simp [memB, h']
  simp only [put, setF, e, h, if_false]
theorem setF_getD (seen : List ByteArray) (n : ByteArray) : (setF seen n).getD (.bool false) = .bool (memB n seen) := by
 cases h : memB n seen <;> simp [setF, h]
theorem zeroBool (w : World) : (zeroValue 4).run Tryz.prog w = .ok (.bool false) w := by kernel_rfl
theorem take_snoc' {α : Type} (l : List α) (j : Nat) (h : j < l.length) : l.take j ++ [l[j]] = l.take (j + 1) := (List.take_succ_eq_append_getElem h).symm
theorem drop_cons' {α : Type} (l : List α) (j : Nat) (h : j < l.length) : l.drop j = l[j] :: l.drop (j + 1) := List.drop_eq_getElem_cons h
set_option maxRecDepth 100000 in
set_option maxHeartbeats 2000000 in
theorem different_any (w : World) (v : Value) (l : List ByteArray) (most : Int) (hv : Sl strE w v l) (hn : l.length ≤ 1048576) (hs : ∀ s ∈ l, s.size ≤ 1048576) :
  Calls Tryz.prog 191 #[v, .int .i64 most] w (Ret w (.bool (differentB l most))) := by
 obtain ⟨A, cap, rfl, hc⟩ := hv.str
 have Hc := Lib.hid hc
 have Hs := Lib.hid hs
 have hmm := @run_makeMap Tryz.prog
 clear hc hs hv
 go_enter Tryz.func191, Tryz.ntmps191
 go_wp2_with fail
 go_loopw [11] (fun k wr => ∃ j : Nat, j ≤ l.length ∧ k = .int .i64 j ∧ Ext w wr ∧ MapF (strK Tryz.underlying9) wr w.heap.size (setF (l.take j)) ∧ Hid (distinctFrom [] l = distinctFrom (l.take j) (l.drop j))) (fun k _ => l.length - (intOf k).toNat)
 case atStart => exact ⟨0, by omega, by simp, (Ext.refl _).alloc _, by rw [show setF (l.take 0) = fun _ => none from by funext s; simp [setF, memB]]; exact MapF.made (strK Tryz.underlying9) w, rfl⟩
 case round =>
  obtain ⟨j, hj, rfl, hx, hmap, hd⟩ := hrel
  by_cases hlt : j < l.length
  ·obtain ⟨b, off, rfl, h0⟩ := Hc.out j hlt
   have h0 := hx.cell h0
   have Hmap := Lib.hid hmap
   have hd' : Hid (distinctFrom [] l = if memB l[j] (l.take j) then false else isNameB l[j] && distinctFrom (l.take (j + 1)) (l.drop (j + 1))) := by
    rw [hd.out, drop_cons' l j hlt]
    simp only [distinctFrom]
    rw [take_snoc' l j hlt]
    rfl
   have HN := Lib.hid (fun w => isName_any l[j] w (Hs.out _ (List.getElem_mem hlt)))
   have Hg := Lib.hid (setF_getD (l.take j) l[j])
   clear hmap hd
   cases hin : memB l[j] (l.take j)
   ·have Hin := Lib.hid hin
    clear hin
    cases hnm : isNameB l[j]
    ·rw [hnm] at HN
     have Hnm := Lib.hid hnm
     clear hnm
     go_wp2_with (at_lookup; refine wpList_lookup_F (strK Tryz.underlying9) rfl _ _ 240 4 rfl Tryz.underlying240 (.bool false) zeroBool _ _ l[j] rfl rfl Hmap.out ?_; rw [Hg.out, Hin.out])
     refine (HN.out _).mono ?_
     rintro e w1 ⟨rfl, hx1⟩
     go_wp2_with fail
     go_ret
     refine ⟨?_, hx.trans hx1⟩
     unfold differentB
     rw [hd'.out, Hin.out, Hnm.out]
     rfl
    ·rw [hnm] at HN
     have Hnm := Lib.hid hnm
     clear hnm
     go_wp2_with (at_lookup; refine wpList_lookup_F (strK Tryz.underlying9) rfl _ _ 240 4 rfl Tryz.underlying240 (.bool false) zeroBool _ _ l[j] rfl rfl Hmap.out ?_; rw [Hg.out, Hin.out])
     refine (HN.out _).mono ?_
     rintro e w1 ⟨rfl, hx1⟩
     have hx2 := hx.trans hx1
     have Hmap1 := Lib.hid (Hmap.out.ext hx1)
     have hsz := hx2.size
     clear hx1 hx Hmap h0
     go_wp2_with (at_mapUpdate; refine wpList_update_F (strK Tryz.underlying9) rfl _ _ _ 240 4 rfl Tryz.underlying240 _ _ l[j] rfl rfl Hmap1.out ?_; intro w2 hm2 hg2)
     have hx3 : Ext w w2 := Below.grown hx2 hg2 hsz (fun k hk => by cases hk; exact Nat.le_refl _)
     have hm3 : MapF (strK Tryz.underlying9) w2 w.heap.size (setF (l.take (j + 1))) := by
      rw [← take_snoc' l j hlt, ← setF_put]; exact hm2
     clear hm2 hg2 Hmap1 hx2
     go_wp2_with fail
     go_roundw
     case rel => exact ⟨j + 1, by omega, by go_num, hx3, hm3, by rw [hd'.out, Hin.out, Hnm.out]; rfl⟩
     case measure => simp [intOf]; omega
   ·have Hin := Lib.hid hin
    clear hin
    go_wp2_with (at_lookup; refine wpList_lookup_F (strK Tryz.underlying9) rfl _ _ 240 4 rfl Tryz.underlying240 (.bool false) zeroBool _ _ l[j] rfl rfl Hmap.out ?_; rw [Hg.out, Hin.out])
    go_ret
    refine ⟨?_, hx⟩
    unfold differentB
    rw [hd'.out, Hin.out]
    rfl
  ·have hd' : Hid (distinctFrom [] l = true) := by
    rw [hd.out, List.drop_of_length_le (by omega)]; rfl
   clear hd hmap
   go_wp2_with fail
   go_ret
   refine ⟨?_, hx⟩
   unfold differentB
   rw [hd'.out]
   simp
end Go.Proofs.YtldnjnnhfeobdaaGreatDoor
