/- Parts of the proof, joined: Contracts: methods that agree; what of a type is plain; names out of records. Conditions: lengths below 2^20; A map of the call's own, told as a function from keys to values. Keys: strings, ints, pairs of ints. No condition; Contract: different (names that are names, and no two the same). Conditions: lengths below 2^20; Contracts: the rules on brands and parts. Conditions: lengths below 2^20; Contract: the references of a type, as an iterator. Conditions: the type is right; Contracts: refs, slices.AppendSeq, slices.Collect, list. Conditions: the type is right; Regions that draw their order, whose operations read what lay before and call what leaves it: one walk in the order of the text. No condition; Regions that draw their order, inside a round of a range over a function: what serves outside serves inside. No condition; Plain theory: what is reached, each class once, level by level; two graphs that run beside each other reach the same. No program. No condition; Contracts: the rules on references, arrays, records, ranges and opaque types. Conditions: lengths below 2^20; Contracts: the rules on records, ranges and opaque types. Conditions: lengths below 2^20; Contracts: the rule on opaque types. Conditions: lengths below 2^20; Contract: signatures. Conditions: lengths below 2^20. -/
import Derived.Maps.OwnOps
import Derived.Laws.StructEq
import Derived.RangeFuncNested
import Derived.RangeFuncBound
import Derived.RangeFuncCalls
import Derived.RangeFuncLeaves
import Derived.Shelf.RegionOpen
import Derived.OwnWalkIn
import Derived.TacticsInMore
import Derived.LoopNIn
import Derived.LoopIn
import Derived.RangeFuncWrites
import Derived.Maps.AppendAt
import Derived.OrdersIn
import Derived.TacticsIn
import Derived.StillTail
import Derived.StillTailTactics
import Derived.Deep.RegionWith
import Derived.Deep.DeepCutAuto
import Derived.Deep.CutBlock
import Derived.Test.YtldnjnnhfeobdaaGreatDoorG01
namespace Go.Proofs.YtldnjnnhfeobdaaGreatDoor
set_option linter.all false
set_option linter.unusedSimpArgs false
set_option linter.unusedVariables false
open Go.RowKit Go.Shelf

def strEq (x y : ByteArray) : Bool := x.toList == y.toList
def sameMethodB (a b : Method) : Bool :=
  strEq a.name b.name && (strEq a.proc b.proc && (decide (a.args.length = b.args.length) && ((decide (a.result < 0) == decide (b.result < 0)) && eqF strEq a.raises b.raises)))

set_option maxRecDepth 100000 in
set_option maxHeartbeats 4000000 in
theorem sameMethods_any (w : World) (a b : Method) (A B A2 B2 : Option Addr) (c d c2 d2 : Nat)
    (h1 : Sl strE w (.slice A2 a.raises.length c2) a.raises) (h2 : Sl strE w (.slice B2 b.raises.length d2) b.raises) (hn : a.raises.length ≤ 1048576) (hm : b.raises.length ≤ 1048576) :
    Calls Tryz.prog 106 #[.agg #[.string a.name, .slice A a.args.length c, .int .i64 a.result, .slice A2 a.raises.length c2, .string a.proc], .agg #[.string b.name, .slice B b.args.length d, .int .i64 b.result, .slice B2 b.raises.length d2, .string b.proc]] w
      (Ret w (.bool (sameMethodB a b))) := by
  have he := fun (w' : World) (hx : Ext w w') => equal_str w' _ _ _ _ (h1.mono hx) (h2.mono hx) hn hm
  change ∀ w', _ → Calls _ _ _ _ (Ret w' (.bool (eqF strEq a.raises b.raises))) at he
  have hr0 : sameMethodB a b = (strEq a.name b.name && (strEq a.proc b.proc && (decide (a.args.length = b.args.length) && ((decide (a.result < 0) == decide (b.result < 0)) && eqF strEq a.raises b.raises)))) := rfl
  rw [hr0]
  clear hr0 h1 h2
  generalize eqF strEq a.raises b.raises = r at he ⊢
  have He := Lib.hid he
  clear he hn hm
  cases c1 : strEq a.name b.name
  · have c1' : (a.name.toList == b.name.toList) = false := c1
    clear c1
    go_enter Tryz.func106, Tryz.ntmps106
    go_wp2_with fail
    go_ret
    exact ⟨rfl, ((Ext.refl _).alloc _).alloc _⟩
  · have c1' : (a.name.toList == b.name.toList) = true := c1
    clear c1
    cases c2' : strEq a.proc b.proc
    · have c3' : (a.proc.toList == b.proc.toList) = false := c2'
      clear c2'
      go_enter Tryz.func106, Tryz.ntmps106
      go_wp2_with fail
      go_ret
      exact ⟨rfl, ((Ext.refl _).alloc _).alloc _⟩
    · have c3' : (a.proc.toList == b.proc.toList) = true := c2'
      clear c2'
      by_cases c4 : a.args.length = b.args.length
      · have c5 : ((a.args.length : Int) == (b.args.length : Int)) = true := by simp [c4]
        have C4 := Lib.hid c4
        rw [decide_eq_true c4]
        clear c4
        by_cases p : a.result < 0 <;> by_cases q : b.result < 0
        all_goals
          have P := Lib.hid p
          have Q := Lib.hid q
          (first | rw [decide_eq_true p] | rw [decide_eq_false p])
          (first | rw [decide_eq_true q] | rw [decide_eq_false q])
        · go_enter Tryz.func106, Tryz.ntmps106
          go_wp2_with fail
          refine (He.out _ (((Ext.refl _).alloc _).alloc _)).mono ?_
          rintro e w1 ⟨rfl, hx1⟩
          go_wp2_with fail
          go_ret
          exact ⟨rfl, (((Ext.refl _).alloc _).alloc _).trans hx1⟩
        · go_enter Tryz.func106, Tryz.ntmps106
          go_wp2_with fail
          go_ret
          exact ⟨rfl, ((Ext.refl _).alloc _).alloc _⟩
        · go_enter Tryz.func106, Tryz.ntmps106
          go_wp2_with fail
          go_ret
          exact ⟨rfl, ((Ext.refl _).alloc _).alloc _⟩
        · go_enter Tryz.func106, Tryz.ntmps106
          go_wp2_with fail
          refine (He.out _ (((Ext.refl _).alloc _).alloc _)).mono ?_
          rintro e w1 ⟨rfl, hx1⟩
          go_wp2_with fail
          go_ret
          exact ⟨rfl, (((Ext.refl _).alloc _).alloc _).trans hx1⟩
      · have c5 : ((a.args.length : Int) == (b.args.length : Int)) = false := by simp; omega
        rw [decide_eq_false c4]
        clear c4
        go_enter Tryz.func106, Tryz.ntmps106
        go_wp2_with fail
        go_ret
        exact ⟨rfl, ((Ext.refl _).alloc _).alloc _⟩

/-- a type as it stands as a value -/
def tyV (t : Ty) (vp vm vo : Value) : Value := .agg #[.int .u8 t.kind, .int .i64 t.low, .int .i64 t.high, .bool t.branded, .string t.brand, .string t.opaq, .int .i64 t.super, vp, vm, vo]
def plainV (t : Ty) : Value := .agg #[.int .u8 t.kind, .int .i64 t.low, .int .i64 t.high, .bool t.branded, .string t.brand, .string t.opaq, .int .i64 0]
set_option maxRecDepth 100000 in
set_option maxHeartbeats 1000000 in
theorem plainOf_any (w : World) (t : Ty) (A B C : Option Addr) (a b c a' b' c' : Nat) :
    Calls Tryz.prog 78 #[.agg #[.int .u8 t.kind, .int .i64 t.low, .int .i64 t.high, .bool t.branded, .string t.brand, .string t.opaq, .int .i64 t.super, .slice A a a', .slice B b b', .slice C c c']] w (Ret w (plainV t)) := by
  go_enter Tryz.func78, Tryz.ntmps78
  go_wp2_with fail
  exact bodyPost_ret (v := plainV t) (by simp [results, Tryz.results78, go_sem, plainV]) rfl ⟨rfl, ((Ext.refl _).alloc _).alloc _⟩

/-! ### the names out of records -/
set_option maxRecDepth 100000 in
theorem name193 (w : World) (a : ByteArray) (n : Int) : Calls Tryz.prog 193 #[.agg #[.string a, .int .i64 n]] w (Ret w (.string a)) := by
  go_enter Tryz.func193, Tryz.ntmps193
  go_wp2_with fail
  go_ret
  exact ⟨rfl, (Ext.refl _).alloc _⟩
set_option maxRecDepth 100000 in
theorem name194 (w : World) (a : ByteArray) (n : Int) : Calls Tryz.prog 194 #[.agg #[.string a, .int .i64 n]] w (Ret w (.string a)) := by
  go_enter Tryz.func194, Tryz.ntmps194
  go_wp2_with fail
  go_ret
  exact ⟨rfl, (Ext.refl _).alloc _⟩
set_option maxRecDepth 100000 in
theorem name223 (w : World) (a b : ByteArray) : Calls Tryz.prog 223 #[.agg #[.string a, .string b]] w (Ret w (.string a)) := by
  go_enter Tryz.func223, Tryz.ntmps223
  go_wp2_with fail
  go_ret
  exact ⟨rfl, (Ext.refl _).alloc _⟩
set_option maxRecDepth 100000 in
theorem name221 (w : World) (a b : ByteArray) (A B : Option Addr) (n m k l : Nat) (r : Int) : Calls Tryz.prog 221 #[.agg #[.string a, .slice A n m, .int .i64 r, .slice B k l, .string b]] w (Ret w (.string a)) := by
  go_enter Tryz.func221, Tryz.ntmps221
  go_wp2_with fail
  go_ret
  exact ⟨rfl, (Ext.refl _).alloc _⟩
theorem res_str {w : World} {s : ByteArray} {f : Nat} {args : Array Value} (h : Calls Tryz.prog f args w (Ret w (.string s))) : Calls Tryz.prog f args w (RetP w (Res strE w s)) :=
  h.mono fun e w' ⟨he, hx⟩ => ⟨_, he, ⟨[.string s], rfl, rfl⟩, hx⟩
theorem map193 (w : World) (xs : List Part) : MapP partE strE w 193 #[] xs Part.name :=
  ⟨enters_of Tryz.func193 (by kernel_rfl) rfl, by rintro x _ w' A hx ⟨cs, rfl, rfl⟩; exact res_str (name193 w' x.name x.type)⟩
theorem map194 (w : World) (xs : List Part) : MapP partE strE w 194 #[] xs Part.name :=
  ⟨enters_of Tryz.func194 (by kernel_rfl) rfl, by rintro x _ w' A hx ⟨cs, rfl, rfl⟩; exact res_str (name194 w' x.name x.type)⟩
theorem map223 (w : World) (xs : List Over) : MapP overE strE w 223 #[] xs Over.name :=
  ⟨enters_of Tryz.func223 (by kernel_rfl) rfl, by rintro x _ w' A hx ⟨cs, rfl, rfl⟩; exact res_str (name223 w' x.name x.proc)⟩
theorem map221 (w : World) (xs : List Method) : MapP methodE strE w 221 #[] xs Method.name :=
  ⟨enters_of Tryz.func221 (by kernel_rfl) rfl, by
    rintro x _ w' A hx ⟨cs, ⟨va, vr, rfl, ⟨_, _, rfl, _⟩, ⟨_, _, rfl, _⟩⟩, rfl⟩
    exact res_str (name221 w' _ _ _ _ _ _ _ _ _)⟩
end Go.Proofs.YtldnjnnhfeobdaaGreatDoor
/- A map of the call's own, told as a function from keys to values. Keys: strings, ints, pairs of ints. No condition. -/
namespace Go.Proofs.YtldnjnnhfeobdaaGreatDoor
set_option linter.all false
set_option linter.unusedSimpArgs false
set_option linter.unusedVariables false
open Go.RowKit Go.Shelf

/-- how keys of type kt stand as values -/
structure KeyEnc (P : Program) (kt : TypeId) (κ : Type) where
  enc : κ → Value
  inj : ∀ a b, enc a = enc b → a = b
  check : ∀ empty w k, (Instr.checkKey empty 10000 kt (enc k)).run P w = .ok () w
  find : ∀ w k (es : List MapEntry), (∀ e ∈ es, ∃ k', e.key = enc k') → ∃ r, (Instr.findKey kt (enc k) es).run P w = .ok r w ∧
    (match r with | none => ∀ e ∈ es, e.key ≠ enc k | some (i, v) => ∃ e, es[i]? = some e ∧ e.key = enc k ∧ e.val = v)
  stays : ∀ w k, (Instr.keyThatStays (enc k) (enc k)).run P w = .ok (enc k) w

theorem find_now (P : Program) (kt : TypeId) (d : TypeDesc) (hd : P.underlying kt = some d) {κ : Type} (enc : κ → Value)
    (hs : ∀ a b, (Instr.sameNow d (enc a) (enc b) = some true ∧ enc a = enc b) ∨ (Instr.sameNow d (enc a) (enc b) = some false ∧ enc a ≠ enc b)) :
    ∀ w k (es : List MapEntry), (∀ e ∈ es, ∃ k', e.key = enc k') → ∃ r, (Instr.findKey kt (enc k) es).run P w = .ok r w ∧
      (match r with | none => ∀ e ∈ es, e.key ≠ enc k | some (i, v) => ∃ e, es[i]? = some e ∧ e.key = enc k ∧ e.val = v) := by
  intro w k es hes
  have key : ∀ (l : List MapEntry) (i : Nat), (∀ e ∈ l, ∃ k', e.key = enc k') → ∃ r, Instr.findNow d (enc k) l i = some r ∧
      (match r with | none => ∀ e ∈ l, e.key ≠ enc k | some (j, v) => ∃ m e, j = i + m ∧ l[m]? = some e ∧ e.key = enc k ∧ e.val = v) := by
    intro l
    induction l with
    | nil => intro i _; exact ⟨none, rfl, by simp⟩
    | cons e l ih =>
      intro i hl
      obtain ⟨k', hk'⟩ := hl e (by simp)
      rcases hs k k' with ⟨h1, h2⟩ | ⟨h1, h2⟩
      · refine ⟨some (i, e.val), ?_, 0, e, rfl, rfl, by rw [hk', h2], rfl⟩
        simp only [Instr.findNow, hk', h1]
      · obtain ⟨r, hr, hm⟩ := ih (i + 1) (fun e he => hl e (by simp [he]))
        refine ⟨r, ?_, ?_⟩
        · simp only [Instr.findNow, hk', h1, hr]
        · cases r with
          | none =>
            intro e' he'
            rcases List.mem_cons.1 he' with rfl | he'
            · rw [hk']; exact fun h => h2 h.symm
            · exact hm e' he'
          | some q =>
            obtain ⟨j, v⟩ := q
            obtain ⟨m, e', h1, h2, h3⟩ := hm
            exact ⟨m + 1, e', by omega, by simpa using h2, h3⟩
  obtain ⟨r, hr, hm⟩ := key es 0 hes
  refine ⟨r, ?_, ?_⟩
  · simp [Instr.findKey, run_underlying hd, hr]
  · cases r with
    | none => exact hm
    | some q =>
      obtain ⟨j, v⟩ := q
      obtain ⟨m, e', h1, h2, h3⟩ := hm
      exact ⟨e', by rw [h1, Nat.zero_add]; exact h2, h3⟩

theorem find_asking (P : Program) (kt : TypeId) (d : TypeDesc) (hd : P.underlying kt = some d) {κ : Type} (enc : κ → Value) (hn : ∀ k (es : List MapEntry) e, es.head? = some e → (∃ k', e.key = enc k') → Instr.findNow d (enc k) es 0 = none)
    (hs : ∀ a b w, ((Op.equal kt (enc a) (enc b)).run P w = .ok true w ∧ enc a = enc b) ∨ ((Op.equal kt (enc a) (enc b)).run P w = .ok false w ∧ enc a ≠ enc b)) :
    ∀ w k (es : List MapEntry), (∀ e ∈ es, ∃ k', e.key = enc k') → ∃ r, (Instr.findKey kt (enc k) es).run P w = .ok r w ∧
      (match r with | none => ∀ e ∈ es, e.key ≠ enc k | some (i, v) => ∃ e, es[i]? = some e ∧ e.key = enc k ∧ e.val = v) := by
  intro w k es hes
  have key : ∀ (l : List MapEntry) (i : Nat), (∀ e ∈ l, ∃ k', e.key = enc k') → ∃ r, (Instr.findAsking kt (enc k) l i).run P w = .ok r w ∧
      (match r with | none => ∀ e ∈ l, e.key ≠ enc k | some (j, v) => ∃ m e, j = i + m ∧ l[m]? = some e ∧ e.key = enc k ∧ e.val = v) := by
    intro l
    induction l with
    | nil => intro i _; exact ⟨none, by simp [Instr.findAsking], by simp⟩
    | cons e l ih =>
      intro i hl
      obtain ⟨k', hk'⟩ := hl e (by simp)
      rcases hs k k' w with ⟨h1, h2⟩ | ⟨h1, h2⟩
      · refine ⟨some (i, e.val), ?_, 0, e, rfl, rfl, by rw [hk', h2], rfl⟩
        simp [Instr.findAsking, hk', h1]
      · obtain ⟨r, hr, hm⟩ := ih (i + 1) (fun e he => hl e (by simp [he]))
        refine ⟨r, ?_, ?_⟩
        · simp [Instr.findAsking, hk', h1, hr]
        · cases r with
          | none =>
            intro e' he'
            rcases List.mem_cons.1 he' with rfl | he'
            · rw [hk']; exact fun h => h2 h.symm
            · exact hm e' he'
          | some q =>
            obtain ⟨j, v⟩ := q
            obtain ⟨m, e', h1, h2, h3⟩ := hm
            exact ⟨m + 1, e', by omega, by simpa using h2, h3⟩
  cases es with
  | nil => exact ⟨none, by simp [Instr.findKey, run_underlying hd, Instr.findNow], by simp⟩
  | cons e l =>
    obtain ⟨r, hr, hm⟩ := key (e :: l) 0 hes
    refine ⟨r, ?_, ?_⟩
    · have := hn k (e :: l) e rfl (hes e (by simp))
      simp [Instr.findKey, run_underlying hd, this, hr]
    · cases r with
      | none => exact hm
      | some q =>
        obtain ⟨j, v⟩ := q
        obtain ⟨m, e', h1, h2, h3⟩ := hm
        exact ⟨e', by rw [h1, Nat.zero_add]; exact h2, h3⟩

/-- block b is a map whose entries are the pairs of f -/
def MapF {P : Program} {kt : TypeId} {κ : Type} (K : KeyEnc P kt κ) (w : World) (b : Nat) (f : κ → Option Value) : Prop :=
  ∃ es clock, w.heap[b]? = some (.map es clock) ∧ (∀ e ∈ es.toList, ∃ k, e.key = K.enc k ∧ f k = some e.val) ∧ (∀ k v, f k = some v → ∃ e ∈ es.toList, e.key = K.enc k) ∧
    (∀ i j (hi : i < es.size) (hj : j < es.size), es[i].key = es[j].key → i = j)

section
variable {P : Program} {kt : TypeId} {κ : Type} {K : KeyEnc P kt κ} {w : World} {b : Nat} {f : κ → Option Value}
theorem MapF.made (K : KeyEnc P kt κ) (w : World) : MapF K (w.alloc (.map #[] 0)) w.heap.size (fun _ => none) :=
  ⟨#[], 0, (MapKept.heap_alloc w _).1, by simp, by simp, by simp⟩
theorem MapF.ext {w' : World} (h : MapF K w b f) (hx : Ext w w') : MapF K w' b f := by
  obtain ⟨es, clock, hb, h1, h2⟩ := h
  exact ⟨es, clock, hx.heap hb, h1, h2⟩
theorem MapF.kept {w' : World} (h : MapF K w b f) (hb' : w'.heap[b]? = w.heap[b]?) : MapF K w' b f := by
  obtain ⟨es, clock, hb, h1, h2⟩ := h
  exact ⟨es, clock, hb'.trans hb, h1, h2⟩
theorem MapF.lt (h : MapF K w b f) : b < w.heap.size := by
  obtain ⟨es, clock, hb, _⟩ := h
  exact (Array.getElem?_eq_some_iff.1 hb).1
theorem MapF.lookup (h : MapF K w b f) {t e : TypeId} (ht : P.underlying t = some (.map kt e)) {z : Value} (hz : (zeroValue e).run P w = .ok z w) (k : κ) :
    (Instr.lookup t (.map (some b)) (K.enc k) false).run P w = .ok ((f k).getD z) w := by
  obtain ⟨es, clock, hb, h1, h2, _⟩ := h
  obtain ⟨r, hr, hm⟩ := K.find w k es.toList (fun e he => let ⟨k', h, _⟩ := h1 e he; ⟨k', h⟩)
  have hc := K.check es.isEmpty w k
  cases r with
  | none =>
    have hn : f k = none := by
      cases hf : f k with
      | none => rfl
      | some v => obtain ⟨e, he, hk⟩ := h2 k v hf; exact absurd hk (hm e he)
    simp [Instr.lookup, run_underlying ht, getObj, Sem.run, hb, hc, hr, hz, hn]
  | some q =>
    obtain ⟨i, v⟩ := q
    obtain ⟨e, he, hk, hv⟩ := hm
    obtain ⟨k', h3, h4⟩ := h1 e (List.mem_of_getElem? he)
    have : k' = k := K.inj _ _ (h3.symm.trans hk)
    subst this
    simp [Instr.lookup, run_underlying ht, getObj, Sem.run, hb, hc, hr, h4, hv]
/-- the map with one entry more, or another one -/
def put [DecidableEq κ] (f : κ → Option Value) (k : κ) (v : Value) : κ → Option Value := fun k' => if k' = k then some v else f k'

theorem MapF.update [DecidableEq κ] (h : MapF K w b f) {t e : TypeId} (ht : P.underlying t = some (.map kt e)) (k : κ) (v : Value) :
    ∃ w', (Instr.mapUpdate t (.map (some b)) (K.enc k) v).run P w = .ok () w' ∧ MapF K w' b (put f k v) ∧ w.grownBy w' (some b) := by
  obtain ⟨es, clock, hb, h1, h2, hd⟩ := h
  obtain ⟨r, hr, hm⟩ := K.find w k es.toList (fun e he => let ⟨k', h, _⟩ := h1 e he; ⟨k', h⟩)
  have hc := K.check false w k
  have hlt := (Array.getElem?_eq_some_iff.1 hb).1
  have hset : ∀ o, ({ w with heap := w.heap.setIfInBounds b o } : World).heap[b]? = some o := fun o => by simp [hlt]
  have hgrow : ∀ o, w.grownBy ({ w with heap := w.heap.setIfInBounds b o } : World) (some b) := fun o =>
    ⟨rfl, rfl, rfl, by simp, fun i _ hi => by
      have : b ≠ i := fun e => hi (by rw [e])
      simp [Array.getElem?_setIfInBounds, this]⟩
  cases r with
  | none =>
    refine ⟨_, ?_, ⟨es.push { key := K.enc k, val := v, born := clock }, clock + 1, hset _, ?_, ?_, ?_⟩, hgrow _⟩
    · simp [Instr.mapUpdate, run_underlying ht, getObj, setObj, Sem.run, hb, hc, hr]
    · intro e he
      simp only [Array.toList_push, List.mem_append, List.mem_singleton] at he
      rcases he with he | rfl
      · obtain ⟨k', h3, h4⟩ := h1 e he
        refine ⟨k', h3, ?_⟩
        have : k' ≠ k := fun e' => hm e he (by rw [h3, e'])
        simp [put, this, h4]
      · exact ⟨k, rfl, by simp [put]⟩
    · intro k' v' hv
      by_cases e : k' = k
      · subst e
        exact ⟨{ key := K.enc k', val := v, born := clock }, by simp, rfl⟩
      · simp only [put, e, if_false] at hv
        obtain ⟨e', he', hk'⟩ := h2 k' v' hv
        exact ⟨e', by simp [he'], hk'⟩
    · intro i j hi hj hij
      simp only [Array.size_push] at hi hj
      by_cases h3 : i < es.size <;> by_cases h4 : j < es.size
      · rw [Array.getElem_push_lt h3, Array.getElem_push_lt h4] at hij
        exact hd i j h3 h4 hij
      · have e4 : j = es.size := by omega
        subst e4
        rw [Array.getElem_push_lt h3, Array.getElem_push_eq] at hij
        exact absurd hij (hm es[i] (by simp))
      · have e3 : i = es.size := by omega
        subst e3
        rw [Array.getElem_push_lt h4, Array.getElem_push_eq] at hij
        exact absurd hij.symm (hm es[j] (by simp))
      · omega
  | some q =>
    obtain ⟨i, v0⟩ := q
    obtain ⟨e0, he0, hk0, hv0⟩ := hm
    have hst := K.stays w k
    have hi : i < es.size := by
      have := (List.getElem?_eq_some_iff.1 he0).1
      simpa using this
    have hget : es[i] = e0 := by
      have := (List.getElem?_eq_some_iff.1 he0).2
      simpa using this
    refine ⟨_, ?_, ⟨es.modify i (fun e => { e with key := K.enc k, val := v }), clock, hset _, ?_, ?_, ?_⟩, hgrow _⟩
    · have hk : (((es[i]?).map (·.key)).getD (K.enc k)) = K.enc k := by rw [Array.getElem?_eq_getElem hi, hget]; exact hk0
      simp [Instr.mapUpdate, run_underlying ht, getObj, setObj, Sem.run, hb, hc, hr, hget, hi, hk0, hst]
    · intro e he
      obtain ⟨j, hj, rfl⟩ := List.mem_iff_getElem.1 he
      have hj' : j < es.size := by simpa using hj
      simp only [Array.getElem_toList, Array.getElem_modify]
      split
      · exact ⟨k, rfl, by simp [put]⟩
      · rename_i hne
        obtain ⟨k', h3, h4⟩ := h1 es[j] (by simp)
        refine ⟨k', h3, ?_⟩
        have e : ¬ k' = k := by
          rintro rfl
          exact hne (hd i j hi hj' (by rw [hget, hk0, h3]))
        simp [put, e, h4]
    · intro k' v' hv
      by_cases e : k' = k
      · subst e
        refine ⟨{ es[i] with key := K.enc k', val := v }, ?_, rfl⟩
        rw [List.mem_iff_getElem]
        exact ⟨i, by simpa using hi, by simp⟩
      · simp only [put, e, if_false] at hv
        obtain ⟨e', he', hk'⟩ := h2 k' v' hv
        obtain ⟨j, hj, rfl⟩ := List.mem_iff_getElem.1 he'
        have hj' : j < es.size := by simpa using hj
        refine ⟨es[j], ?_, hk'⟩
        rw [List.mem_iff_getElem]
        refine ⟨j, by simpa using hj', ?_⟩
        simp only [Array.getElem_toList, Array.getElem_modify]
        rw [if_neg]
        rintro rfl
        rw [Array.getElem_toList, hget, hk0] at hk'
        exact e (K.inj _ _ hk').symm
    · have hsame : ∀ (m : Nat) (hm : m < es.size), ((es.modify i (fun e => { e with key := K.enc k, val := v }))[m]'(by simpa using hm)).key = es[m].key := by
        intro m hm
        simp only [Array.getElem_modify]
        split
        · rename_i h; subst h; rw [hget, hk0]
        · rfl
      intro m j hm hj hij
      have hm' : m < es.size := by simpa using hm
      have hj' : j < es.size := by simpa using hj
      rw [hsame m hm', hsame j hj'] at hij
      exact hd m j hm' hj' hij
end

/-! ### the keys that are used -/
theorem ba_toList_inj {a b : ByteArray} (h : a.toList = b.toList) : a = b := by
  rw [ByteArray.toList_eq, ByteArray.toList_eq] at h
  obtain ⟨⟨x⟩⟩ := a
  obtain ⟨⟨y⟩⟩ := b
  simp at h
  rw [h]
theorem ba_beq (a b : ByteArray) : (a == b) = decide (a = b) := by
  rw [beq_toListBytes, Bool.eq_iff_iff]
  simp only [beq_iff_eq, decide_eq_true_eq]
  exact ⟨ba_toList_inj, fun h => by rw [h]⟩
def strK {P : Program} {kt : TypeId} (h : P.underlying kt = some .string) : KeyEnc P kt ByteArray where
  enc s := .string s
  inj := by rintro a b h; injection h
  check := fun empty w k => by
    obtain ⟨d, hd⟩ : ∃ d, (10000 : Nat) = d + 1 := ⟨9999, rfl⟩
    rw [hd]
    simp [Instr.checkKey, run_underlying h]
  find := find_now P kt .string h _ (fun a b => by
    by_cases e : a = b
    · subst e; exact .inl ⟨by simp [Instr.sameNow, ba_beq], rfl⟩
    · exact .inr ⟨by simp [Instr.sameNow, e, ba_beq], fun h => by injection h; contradiction⟩)
  stays := fun w k => by simp [Instr.keyThatStays, Instr.sameBits, ba_beq]
def intK {P : Program} {kt : TypeId} (h : P.underlying kt = some (.int .i64)) : KeyEnc P kt Int where
  enc n := .int .i64 n
  inj := by rintro a b h; injection h
  check := fun empty w k => by
    obtain ⟨d, hd⟩ : ∃ d, (10000 : Nat) = d + 1 := ⟨9999, rfl⟩
    rw [hd]
    simp [Instr.checkKey, run_underlying h]
  find := find_now P kt (.int .i64) h _ (fun a b => by
    by_cases e : a = b
    · subst e; exact .inl ⟨by simp [Instr.sameNow], rfl⟩
    · exact .inr ⟨by simp [Instr.sameNow, e], fun h => by injection h; contradiction⟩)
  stays := fun w k => by simp [Instr.keyThatStays, Instr.sameBits]

/-! ### at the operation -/
theorem wpList_lookup_F {P : Program} {kt : TypeId} {κ : Type} (K : KeyEnc P kt κ) {w : World} {ops : Array Oper} {rest : List Oper} {o : Oper} {a : Act} {Q : Exit → Act → World → Prop}
    (hg : o.guard = none) (m x : Operand) (t e : TypeId) (hop : o.op = Op.lookup t m x false) (ht : P.underlying t = some (.map kt e)) (z : Value) (hz : ∀ w, (zeroValue e).run P w = .ok z w)
    (b : Nat) (f : κ → Option Value) (k : κ) (hm : a.eval m = .map (some b)) (hx : a.eval x = K.enc k) (h : MapF K w b f)
    (hK : wpList P ops Q rest (a.put o.dst ((f k).getD z)) w) : wpList P ops Q (o :: rest) a w := by
  refine wpList_plain hg fun K' hK' => ?_
  have hrun := h.lookup ht (hz w) k
  unfold Oper.wp
  simp [execOp, hop, hm, hx, hrun, Result.andThen]
  exact hK' _ _ hK
theorem wpList_update_F {P : Program} {kt : TypeId} {κ : Type} [DecidableEq κ] (K : KeyEnc P kt κ) {w : World} {ops : Array Oper} {rest : List Oper} {o : Oper} {a : Act} {Q : Exit → Act → World → Prop}
    (hg : o.guard = none) (m x v : Operand) (t e : TypeId) (hop : o.op = Op.mapUpdate t m x v) (ht : P.underlying t = some (.map kt e))
    (b : Nat) (f : κ → Option Value) (k : κ) (hm : a.eval m = .map (some b)) (hx : a.eval x = K.enc k) (h : MapF K w b f)
    (hK : ∀ w', MapF K w' b (put f k (a.eval v)) → w.grownBy w' (some b) → wpList P ops Q rest (a.put o.dst undef) w') : wpList P ops Q (o :: rest) a w := by
  refine wpList_plain hg fun K' hK' => ?_
  obtain ⟨w', hrun, h1, h2⟩ := h.update ht k (a.eval v)
  unfold Oper.wp
  simp [execOp, hop, hm, hx, hrun, Result.andThen]
  exact hK' _ _ (hK w' h1 h2)
theorem wpList_insert_F {P : Program} {kt : TypeId} {κ : Type} [DecidableEq κ] (K : KeyEnc P kt κ) {w : World} {ops : Array Oper} {rest : List Oper} {o : Oper} {a : Act} {Q : Exit → Act → World → Prop}
    (hg : o.guard = none) (m x v : Operand) (t e : TypeId) (hop : o.op = Op.insert t m x v) (ht : P.underlying t = some (.map kt e))
    (b : Nat) (f : κ → Option Value) (k : κ) (hm : a.eval m = .map (some b)) (hx : a.eval x = K.enc k) (h : MapF K w b f)
    (hK : ∀ w', MapF K w' b (put f k (a.eval v)) → w.grownBy w' (some b) → wpList P ops Q rest (a.put o.dst undef) w') : wpList P ops Q (o :: rest) a w := by
  refine wpList_plain hg fun K' hK' => ?_
  obtain ⟨w', hrun, h1, h2⟩ := h.update ht k (a.eval v)
  unfold Oper.wp
  simp [execOp, hop, hm, hx, hrun, Result.andThen]
  exact hK' _ _ (hK w' h1 h2)
end Go.Proofs.YtldnjnnhfeobdaaGreatDoor
/- Contract: different (names that are names, and no two the same). Conditions: lengths below 2^20. -/
namespace Go.Proofs.YtldnjnnhfeobdaaGreatDoor
set_option linter.all false
set_option linter.unusedSimpArgs false
set_option linter.unusedVariables false
open Go.RowKit Go.Shelf

/-- names that are names, none of which is in seen or comes twice -/
def distinctFrom (seen : List ByteArray) : List ByteArray → Bool
  | [] => true
  | n :: r => if memB n seen then false else isNameB n && distinctFrom (seen ++ [n]) r
def differentB (l : List ByteArray) (most : Int) : Bool := distinctFrom [] l && decide ((l.length : Int) ≤ most)

def setF (seen : List ByteArray) : ByteArray → Option Value := fun s => if memB s seen then some (.bool true) else none
theorem setF_put (seen : List ByteArray) (n : ByteArray) : put (setF seen) n (.bool true) = setF (seen ++ [n]) := by
  funext s
  by_cases h : s = n
  · subst h
    simp [put, setF, memB]
  · have h' : ¬ n = s := fun e => h e.symm
    have e : memB s (seen ++ [n]) = memB s seen := by rw [memB_append]; simp [memB, h']
    simp only [put, setF, e, h, if_false]
theorem setF_getD (seen : List ByteArray) (n : ByteArray) : (setF seen n).getD (.bool false) = .bool (memB n seen) := by
  cases h : memB n seen <;> simp [setF, h]
theorem zeroBool (w : World) : (zeroValue 4).run Tryz.prog w = .ok (.bool false) w := by kernel_rfl
theorem take_snoc' {α : Type} (l : List α) (j : Nat) (h : j < l.length) : l.take j ++ [l[j]] = l.take (j + 1) := (List.take_succ_eq_append_getElem h).symm
theorem drop_cons' {α : Type} (l : List α) (j : Nat) (h : j < l.length) : l.drop j = l[j] :: l.drop (j + 1) := List.drop_eq_getElem_cons h

set_option maxRecDepth 100000 in
set_option maxHeartbeats 2000000 in
theorem different_any (w : World) (v : Value) (l : List ByteArray) (most : Int) (hv : Sl strE w v l) (hn : l.length ≤ 1048576) (hs : ∀ s ∈ l, s.size ≤ 1048576) :
    Calls Tryz.prog 191 #[v, .int .i64 most] w (Ret w (.bool (differentB l most))) := by
  obtain ⟨A, cap, rfl, hc⟩ := hv.str
  have Hc := Lib.hid hc
  have Hs := Lib.hid hs
  have hmm := @run_makeMap Tryz.prog
  clear hc hs hv
  go_enter Tryz.func191, Tryz.ntmps191
  go_wp2_with fail
  go_loopw [11] (fun k wr => ∃ j : Nat, j ≤ l.length ∧ k = .int .i64 j ∧ Ext w wr ∧ MapF (strK Tryz.underlying9) wr w.heap.size (setF (l.take j)) ∧ Hid (distinctFrom [] l = distinctFrom (l.take j) (l.drop j))) (fun k _ => l.length - (intOf k).toNat)
  case atStart => exact ⟨0, by omega, by simp, (Ext.refl _).alloc _, by rw [show setF (l.take 0) = fun _ => none from by funext s; simp [setF, memB]]; exact MapF.made (strK Tryz.underlying9) w, rfl⟩
  case round =>
    obtain ⟨j, hj, rfl, hx, hmap, hd⟩ := hrel
    by_cases hlt : j < l.length
    · obtain ⟨b, off, rfl, h0⟩ := Hc.out j hlt
      have h0 := hx.cell h0
      have Hmap := Lib.hid hmap
      have hd' : Hid (distinctFrom [] l = if memB l[j] (l.take j) then false else isNameB l[j] && distinctFrom (l.take (j + 1)) (l.drop (j + 1))) := by
        rw [hd.out, drop_cons' l j hlt]
        simp only [distinctFrom]
        rw [take_snoc' l j hlt]
        rfl
      have HN := Lib.hid (fun w => isName_any l[j] w (Hs.out _ (List.getElem_mem hlt)))
      have Hg := Lib.hid (setF_getD (l.take j) l[j])
      clear hmap hd
      cases hin : memB l[j] (l.take j)
      · have Hin := Lib.hid hin
        clear hin
        cases hnm : isNameB l[j]
        · rw [hnm] at HN
          have Hnm := Lib.hid hnm
          clear hnm
          go_wp2_with (at_lookup; refine wpList_lookup_F (strK Tryz.underlying9) rfl _ _ 240 4 rfl Tryz.underlying240 (.bool false) zeroBool _ _ l[j] rfl rfl Hmap.out ?_; rw [Hg.out, Hin.out])
          refine (HN.out _).mono ?_
          rintro e w1 ⟨rfl, hx1⟩
          go_wp2_with fail
          go_ret
          refine ⟨?_, hx.trans hx1⟩
          unfold differentB
          rw [hd'.out, Hin.out, Hnm.out]
          rfl
        · rw [hnm] at HN
          have Hnm := Lib.hid hnm
          clear hnm
          go_wp2_with (at_lookup; refine wpList_lookup_F (strK Tryz.underlying9) rfl _ _ 240 4 rfl Tryz.underlying240 (.bool false) zeroBool _ _ l[j] rfl rfl Hmap.out ?_; rw [Hg.out, Hin.out])
          refine (HN.out _).mono ?_
          rintro e w1 ⟨rfl, hx1⟩
          have hx2 := hx.trans hx1
          have Hmap1 := Lib.hid (Hmap.out.ext hx1)
          have hsz := hx2.size
          clear hx1 hx Hmap h0
          go_wp2_with (at_mapUpdate; refine wpList_update_F (strK Tryz.underlying9) rfl _ _ _ 240 4 rfl Tryz.underlying240 _ _ l[j] rfl rfl Hmap1.out ?_; intro w2 hm2 hg2)
          have hx3 : Ext w w2 := Below.grown hx2 hg2 hsz (fun k hk => by cases hk; exact Nat.le_refl _)
          have hm3 : MapF (strK Tryz.underlying9) w2 w.heap.size (setF (l.take (j + 1))) := by
            rw [← take_snoc' l j hlt, ← setF_put]; exact hm2
          clear hm2 hg2 Hmap1 hx2
          go_wp2_with fail
          go_roundw
          case rel => exact ⟨j + 1, by omega, by go_num, hx3, hm3, by rw [hd'.out, Hin.out, Hnm.out]; rfl⟩
          case measure => simp [intOf]; omega
      · have Hin := Lib.hid hin
        clear hin
        go_wp2_with (at_lookup; refine wpList_lookup_F (strK Tryz.underlying9) rfl _ _ 240 4 rfl Tryz.underlying240 (.bool false) zeroBool _ _ l[j] rfl rfl Hmap.out ?_; rw [Hg.out, Hin.out])
        go_ret
        refine ⟨?_, hx⟩
        unfold differentB
        rw [hd'.out, Hin.out]
        rfl
    · have hd' : Hid (distinctFrom [] l = true) := by
        rw [hd.out, List.drop_of_length_le (by omega)]; rfl
      clear hd hmap
      go_wp2_with fail
      go_ret
      refine ⟨?_, hx⟩
      unfold differentB
      rw [hd'.out]
      simp
end Go.Proofs.YtldnjnnhfeobdaaGreatDoor
/- Contracts: the rules on brands and parts. Conditions: lengths below 2^20. -/
namespace Go.Proofs.YtldnjnnhfeobdaaGreatDoor
set_option linter.all false
set_option linter.unusedSimpArgs false
set_option linter.unusedVariables false
open Go.RowKit Go.Shelf

theorem heap_cell {w : World} {b : Nat} {c : Array Value} {t : TypeId} {fr : Nat × Nat} (h : w.heap[b]? = some (.cells c t fr)) (i : Nat) (v : Value) (hv : c[i]? = some v) : w.cell? ⟨b, i, none⟩ = some v := by
  simp [World.cell?, h, hv]
theorem heap_frozen {w : World} {b : Nat} {c : Array Value} {t : TypeId} (h : w.heap[b]? = some (.cells c t (0, 0))) (i : Nat) : w.frozen? ⟨b, i, none⟩ = false := by
  simp [World.frozen?, h]
theorem heap_set {w : World} {b : Nat} {c : Array Value} {t : TypeId} {fr : Nat × Nat} (h : w.heap[b]? = some (.cells c t fr)) (i : Nat) (v : Value) : (w.setCell ⟨b, i, none⟩ v).heap[b]? = some (.cells (c.setIfInBounds i v) t fr) := by
  simp [World.setCell, Array.getElem?_modify, h]

/-- a type in a box of the call's own -/
def TyBox (w : World) (b : Nat) (t : Ty) (vp vm vo : Value) : Prop :=
  w.heap[b]? = some (.cells #[.int .u8 t.kind, .int .i64 t.low, .int .i64 t.high, .bool t.branded, .string t.brand, .string t.opaq, .int .i64 t.super, vp, vm, vo] 42 (0, 0))
theorem TyBox.ext {w w' : World} {b : Nat} {t : Ty} {vp vm vo : Value} (h : TyBox w b t vp vm vo) (hx : Ext w w') : TyBox w' b t vp vm vo := hx.heap h
theorem TyBox.at {w : World} {b : Nat} {t : Ty} {vp vm vo : Value} (h : TyBox w b t vp vm vo) : TyAt w b 0 t vp vm vo :=
  ⟨heap_cell h 0 _ rfl, heap_cell h 1 _ rfl, heap_cell h 2 _ rfl, heap_cell h 3 _ rfl, heap_cell h 4 _ rfl, heap_cell h 5 _ rfl, heap_cell h 6 _ rfl, heap_cell h 7 _ rfl, heap_cell h 8 _ rfl, heap_cell h 9 _ rfl⟩
theorem TyBox.lt {w : World} {b : Nat} {t : Ty} {vp vm vo : Value} (h : TyBox w b t vp vm vo) : b < w.heap.size := (Array.getElem?_eq_some_iff.1 h).1

theorem toList_empty : ByteArray.empty.toList = [] := by rw [ByteArray.toList_eq]; rfl
theorem strEq_empty (s : ByteArray) : strEq s ByteArray.empty = s.toList.isEmpty := by
  unfold strEq
  rw [toList_empty]
  cases s.toList <;> rfl
def partBad (n : Nat) (p : Part) : Bool := !hasB n p.type
set_option maxRecDepth 100000 in
theorem branded1 (w : World) (B : Nat) (A : Option Addr) (n cap : Nat) (p : Part) (hn : n ≤ 1048576) (hc : w.cell? ⟨B, 0, none⟩ = some (.slice A n cap)) :
    Calls Tryz.prog 219 #[.agg #[.string p.name, .int .i64 p.type], .pointer (some ⟨B, 0, none⟩)] w (Ret w (.bool (partBad n p))) := by
  have hlt := cell_lt hc
  have hh := fun w => has_any w A n cap p.type hn
  unfold partBad
  generalize hasB n p.type = r at hh ⊢
  have Hh := Lib.hid hh
  clear hh
  go_enter Tryz.func219, Tryz.ntmps219
  go_wp2_with fail
  refine (Hh.out _).mono ?_
  rintro e w1 ⟨rfl, hx1⟩
  go_wp2_with fail
  go_ret
  exact ⟨rfl, ((Ext.refl _).alloc _).trans hx1⟩
theorem pred219 (w : World) (B : Nat) (A : Option Addr) (n cap : Nat) (xs : List Part) (hn : n ≤ 1048576) (hc : w.cell? ⟨B, 0, none⟩ = some (.slice A n cap)) :
    Pred partE w 219 #[.pointer (some ⟨B, 0, none⟩)] xs (partBad n) :=
  ⟨enters_of Tryz.func219 (by kernel_rfl) rfl, by
    rintro x _ w' A' hx ⟨cs, rfl, rfl⟩
    exact branded1 w' B A n cap x hn (hx.cell hc)⟩

def brandedB (n : Nat) (t : Ty) : Bool := isBrandB t.brand && ((t.branded || strEq t.brand ByteArray.empty) && !t.parts.any (partBad n))
def noBrand (t : Ty) : Ty := { t with branded := false, brand := ByteArray.empty }

set_option maxRecDepth 100000 in
set_option maxHeartbeats 4000000 in
theorem branded_any (w : World) (A : Option Addr) (n cap b : Nat) (t : Ty) (vp vm vo : Value) (hn : n ≤ 1048576) (hbrand : t.brand.size ≤ 1048576) (hp : Sl partE w vp t.parts) (hpn : t.parts.length ≤ 1048576) (hb : TyBox w b t vp vm vo) :
    Calls Tryz.prog 190 #[.agg #[.slice A n cap], .pointer (some ⟨b, 0, none⟩)] w fun e w' => e = .returned (.bool (brandedB n t)) ∧ TyBox w' b (noBrand t) vp vm vo ∧ w.grownBy w' (some b) := by
  have Hb := Lib.hid hb
  have hlt := hb.lt
  have h3 := hb.at.c3
  have h4 := hb.at.c4
  have h7 := hb.at.c7
  have hib := fun w => isBrand_any t.brand w hbrand
  obtain ⟨A1, cap1, rfl⟩ := hp.len
  have Hp := Lib.hid hp
  simp only [Nat.zero_add] at h3 h4 h7
  unfold brandedB
  have hfin : ∀ w1 : World, Ext w w1 → TyBox ((w1.setCell ⟨b, 3, none⟩ (.bool false)).setCell ⟨b, 4, none⟩ (.string ByteArray.empty)) b (noBrand t) (.slice A1 t.parts.length cap1) vm vo ∧ w.grownBy ((w1.setCell ⟨b, 3, none⟩ (.bool false)).setCell ⟨b, 4, none⟩ (.string ByteArray.empty)) (some b) := by
    intro w1 hx
    have hb1 := Hb.out.ext hx
    refine ⟨heap_set (heap_set hb1 3 _) 4 _, ⟨hx.os, hx.tape, hx.output, by simp; exact hx.size, fun k hk hne => ?_⟩⟩
    have : k ≠ b := fun e => hne (by rw [e])
    rw [Below.heap_setCell _ _ _ _ this, Below.heap_setCell _ _ _ _ this]
    exact Below.block hx k hk
  have Hfin := Lib.hid hfin
  clear hb hp hfin
  cases h1 : isBrandB t.brand
  · rw [h1] at hib
    have Hib := Lib.hid hib
    clear hib h1 h7
    go_enter Tryz.func190, Tryz.ntmps190
    go_wp2_with fail
    refine (Hib.out _).mono ?_
    rintro e w1 ⟨rfl, hx1⟩
    have hx2 := ((Ext.refl w).alloc _).trans hx1
    have h3' := hx2.cell h3
    have h4' := hx2.cell h4
    have f3 := heap_frozen (Hb.out.ext hx2) 3
    have f4 := heap_frozen (Hb.out.ext hx2) 4
    have Hx2 := Lib.hid hx2
    clear h3 h4 hx1 hx2
    go_wp2_with fail
    go_ret
    exact ⟨rfl, Hfin.out _ Hx2.out⟩
  · rw [h1] at hib
    have Hib := Lib.hid hib
    clear hib h1
    have hcon := fun (w' : World) (hx : Ext w w') (hc : w'.cell? ⟨w.heap.size, 0, none⟩ = some (.slice A n cap)) =>
      containsFunc_part 219 #[.pointer (some ⟨w.heap.size, 0, none⟩)] w' _ _ _ (Hp.out.mono hx) hpn (pred219 w' _ A n cap t.parts hn hc)
    generalize t.parts.any (partBad n) = r at hcon ⊢
    have Hcon := Lib.hid hcon
    clear hcon
    cases hbr : t.branded
    · rw [hbr] at h3
      have hem := strEq_empty t.brand
      rw [hem]
      cases he : t.brand.toList.isEmpty
      · have Hbr := Lib.hid hbr
        clear hem hbr h7
        go_enter Tryz.func190, Tryz.ntmps190
        go_wp2_with fail
        refine (Hib.out _).mono ?_
        rintro e w1 ⟨rfl, hx1⟩
        have hx2 := ((Ext.refl w).alloc _).trans hx1
        have h3' := hx2.cell h3
        have h4' := hx2.cell h4
        have f3 := heap_frozen (Hb.out.ext hx2) 3
        have f4 := heap_frozen (Hb.out.ext hx2) 4
        have Hx2 := Lib.hid hx2
        clear h3 h4 hx1 hx2
        go_wp2_with fail
        go_ret
        exact ⟨rfl, Hfin.out _ Hx2.out⟩
      · have Hbr := Lib.hid hbr
        clear hem hbr
        go_enter Tryz.func190, Tryz.ntmps190
        go_wp2_with fail
        refine (Hib.out _).mono ?_
        rintro e w1 ⟨rfl, hx1⟩
        have hx2 := ((Ext.refl w).alloc _).trans hx1
        have h3' := hx2.cell h3
        have h4' := hx2.cell h4
        have h7' := hx2.cell h7
        have hg' := hx1.cell (World.cell?_alloc_new (w := w) #[.slice A n cap] 77 0)
        have Hx2 := Lib.hid hx2
        clear h3 h4 h7 hx1 hx2
        go_wp2_with fail
        refine (Hcon.out _ Hx2.out hg').mono ?_
        rintro e w2 ⟨rfl, hx3⟩
        have hx4 := Hx2.out.trans hx3
        have h3'' := hx3.cell h3'
        have h4'' := hx3.cell h4'
        have f3 := heap_frozen (Hb.out.ext hx4) 3
        have f4 := heap_frozen (Hb.out.ext hx4) 4
        have Hx4 := Lib.hid hx4
        clear h3' h4' h7' hg' hx3 hx4 Hx2
        go_wp2_with fail
        go_ret
        exact ⟨rfl, Hfin.out _ Hx4.out⟩
    · rw [hbr] at h3
      have Hbr := Lib.hid hbr
      clear hbr
      go_enter Tryz.func190, Tryz.ntmps190
      go_wp2_with fail
      refine (Hib.out _).mono ?_
      rintro e w1 ⟨rfl, hx1⟩
      have hx2 := ((Ext.refl w).alloc _).trans hx1
      have h3' := hx2.cell h3
      have h4' := hx2.cell h4
      have h7' := hx2.cell h7
      have hg' := hx1.cell (World.cell?_alloc_new (w := w) #[.slice A n cap] 77 0)
      have Hx2 := Lib.hid hx2
      clear h3 h4 h7 hx1 hx2
      go_wp2_with fail
      refine (Hcon.out _ Hx2.out hg').mono ?_
      rintro e w2 ⟨rfl, hx3⟩
      have hx4 := Hx2.out.trans hx3
      have h3'' := hx3.cell h3'
      have h4'' := hx3.cell h4'
      have f3 := heap_frozen (Hb.out.ext hx4) 3
      have f4 := heap_frozen (Hb.out.ext hx4) 4
      have Hx4 := Lib.hid hx4
      clear h3' h4' h7' hg' hx3 hx4 Hx2
      go_wp2_with fail
      go_ret
      exact ⟨rfl, Hfin.out _ Hx4.out⟩
end Go.Proofs.YtldnjnnhfeobdaaGreatDoor
/- Contract: the references of a type, as an iterator. Conditions: the type is right. -/
namespace Go.Proofs.YtldnjnnhfeobdaaGreatDoor
set_option linter.all false
set_option linter.unusedSimpArgs false
set_option linter.unusedVariables false
open Go.RowKit Go.Shelf
attribute [local go_sem] Oper.semAt_some

/-- what a round keeps: what lay below n₀; types and methods in boxes -/
def KpR (n₀ : Nat) (W W' : World) : Prop := Below n₀ W W' ∧ ∀ (b : Nat) (c : Array Value) (ty : TypeId) (f : Nat × Nat), ty = 42 ∨ ty = 74 → W.heap[b]? = some (.cells c ty f) → W'.heap[b]? = some (.cells c ty f)
theorem KpR.trans {n₀ : Nat} {A B C : World} (h : KpR n₀ A B) (k : KpR n₀ B C) : KpR n₀ A C := ⟨h.1.trans k.1, fun b c ty f ht hb => k.2 b c ty f ht (h.2 b c ty f ht hb)⟩
theorem KpR.refl (n₀ : Nat) (A : World) : KpR n₀ A A := ⟨Below.refl _ _, fun _ _ _ _ _ h => h⟩
theorem KpR.alloc {n₀ : Nat} {A : World} (h : n₀ ≤ A.heap.size) (o : Obj) : KpR n₀ A (A.alloc o) :=
  ⟨(Below.refl _ _).alloc h o, fun b c ty f ht hb => (Below.heap_alloc _ _ _ (Array.getElem?_eq_some_iff.1 hb).1).trans hb⟩
theorem KpR.book {n₀ : Nat} {w : World} (hn : n₀ ≤ w.heap.size) (W : World) (l : Nat) (o o' : Obj) (hl : w.heap.size ≤ l) (h : W.heap[l]? = some o) (h1 : o.isCells = false) (h2 : o.isWalk = false) : KpR n₀ W (W.putObj l o') :=
  ⟨belowK_b hn W l o o' hl h h1 h2, fun b c ty f ht hb => by
    have hne : b ≠ l := by rintro rfl; rw [h] at hb; injection hb with hb; subst hb; simp [Obj.isCells] at h1
    exact (World.putObj_heap_other hne).trans hb⟩
theorem KpR.ext {w0 A B : World} (h : KpR w0.heap.size A B) (k : Ext w0 A) : Ext w0 B := Below.trans k h.1

/-- a method in a box -/
def MethBox (w : World) (b : Nat) (m : Method) (va vr : Value) : Prop := w.heap[b]? = some (.cells #[.string m.name, va, .int .i64 m.result, vr, .string m.proc] 74 (0, 0))
theorem TyBox.kp {n₀ : Nat} {A B : World} {b : Nat} {t : Ty} {vp vm vo : Value} (h : TyBox A b t vp vm vo) (k : KpR n₀ A B) : TyBox B b t vp vm vo := k.2 _ _ _ _ (.inl rfl) h
theorem MethBox.kp {n₀ : Nat} {A B : World} {b : Nat} {m : Method} {va vr : Value} (h : MethBox A b m va vr) (k : KpR n₀ A B) : MethBox B b m va vr := k.2 _ _ _ _ (.inr rfl) h
theorem MethBox.ext {A B : World} {b : Nat} {m : Method} {va vr : Value} (h : MethBox A b m va vr) (k : Ext A B) : MethBox B b m va vr := k.heap h
theorem MethBox.made (A : World) (m : Method) (va vr : Value) : MethBox (A.alloc (.cells #[.string m.name, va, .int .i64 m.result, vr, .string m.proc] 74)) A.heap.size m va vr := World.alloc_heap_new A _

theorem take_map_one {α β : Type} (f : α → β) (l : List α) (k : Nat) (h : k < l.length) : (l.map f).take k ++ [f l[k]] = (l.map f).take (k + 1) := by
  rw [List.take_succ_eq_append_getElem (by simpa using h)]; simp
theorem take_one {α : Type} (l : List α) (k : Nat) (h : k < l.length) : l.take k ++ [l[k]] = l.take (k + 1) := (List.take_succ_eq_append_getElem h).symm
theorem flat_take_one {α β : Type} (f : α → List β) (l : List α) (k : Nat) (h : k < l.length) : (l.take (k + 1)).flatMap f = (l.take k).flatMap f ++ f l[k] := by
  rw [List.take_succ_eq_append_getElem h, List.flatMap_append]; simp

set_option maxRecDepth 100000 in
set_option maxHeartbeats 4000000 in
theorem refs1_in (n : Nat) (hn : 1 ≤ n) (l bx nn : Nat) (w0 : World) (t : Ty) (vp vm vo : Value) (hof : TyOf w0 t vp vm vo) (hf : Fine nn t) (J Jx : List Int → World → Prop)
    (hY : ∀ (pre : List Int) (x : Int) (W : World), (0 ≤ x ∧ x < nn) → J pre W → pre.length < 66 → YieldAt Fence.wide (n - 1) Tryz.prog l #[.int .i64 x] W fun e W' =>
      (e = .returned (.bool true) ∧ J (pre ++ [x]) W' ∧ KpR w0.heap.size W W') ∨ (e = .returned (.bool false) ∧ Jx (pre ++ [x]) W'))
    (W : World) (hx : Ext w0 W) (hb : TyBox W bx t vp vm vo) (hJ : AbidesFrom W.heap.size J) (h0 : J [] W) :
    CallsIn Fence.wide n Tryz.prog 152 #[.func (.yield l) #[] #[], .pointer (some ⟨bx, 0, none⟩)] W fun e W' => (∃ v, e = .returned v) ∧
      ((∃ xs, xs = refsL t ∧ J xs W') ∨ (∃ pre, True ∧ Jx pre W')) := by
  have HJa := Lib.hid (fun (s : List Int) (W : World) (o : Obj) (h : J s W) => hJ s W (W.alloc o) none h (World.grownBy_alloc W o none) (fun r e => by cases e))
  have HY := Lib.hid hY
  have Hf := Lib.hid hf
  obtain ⟨Ap, cp, ep, hsp⟩ := hof.parts.part
  obtain ⟨Am, cm, em, hsm⟩ := hof.methods.method
  subst ep em
  have hpl := hf.parts
  have hml := hf.methods
  have Hal := Lib.hid hf.args
  have hS : (refsS t).length ≤ 1 := by unfold refsS; split <;> simp
  have Hsp := Lib.hid hsp
  have Hsm := Lib.hid hsm
  have hPl : ∀ k, (refsS t ++ (t.parts.map Part.type).take k).length < 66 := fun k => by
    rw [List.length_append, List.length_take, List.length_map]; omega
  have hMl : ∀ m (hm : m < t.methods.length) a, (refsS t ++ (t.parts.map Part.type ++ (t.methods.take m).flatMap refsM) ++ t.methods[m].args.take a).length < 66 := fun m hm a => by
    have h1 := flatMap_le refsM 7 (t.methods.take m) fun x hx => by
      have := hf.args x (List.mem_of_mem_take hx)
      unfold refsM
      rw [List.length_append]
      split <;> simp <;> omega
    have h2 := hf.args _ (List.getElem_mem hm)
    rw [List.length_take] at h1
    rw [List.length_append, List.length_append, List.length_append, List.length_take, List.length_map]
    omega
  have HPl := Lib.hid hPl
  have HMl := Lib.hid hMl
  have Hb := Lib.hid hb
  have c0 := hb.at.c0
  have c6 := hb.at.c6
  simp only [Nat.zero_add] at c0 c6
  have hs0 : refsS t = if hasSuperB t.kind then [t.super] else [] := rfl
  clear hJ hY hof hf hS hsp hsm hPl hMl hb
  refine callsIn_of_wp Tryz.func152 rfl trivial ?_ rfl
  simp only [Tryz.ntmps152, List.size_toArray, List.length_cons, List.length_nil, Nat.reduceAdd, Nat.reduceSub, Array.replicate_succ, Array.replicate_zero, List.push_toArray, List.append_toArray, List.nil_append, List.cons_append]
  cases hsup : hasSuperB t.kind
  · rw [hsup] at hs0
    simp only [Bool.false_eq_true, if_false] at hs0
    rw [← hs0] at h0
    have Hsup := Lib.hid hsup
    have Hj := Lib.hid h0
    clear hsup hs0 h0
    gi_wp2_with (refine ⟨trivial, ?_⟩; gi_at_call 63; refine (callsIn_wide.2 (hasSuper_any _ _)).mono ?_; rintro e w' ⟨rfl, rfl⟩; rw [Hsup.out])
    refine ⟨fun _ h => (by cases h), ?_⟩
    have Hx := Lib.hid hx
    have c7 := Hb.out.at.c7
    simp only [Nat.zero_add] at c7
    clear c0 c6 hx Hsup
    gi_wp2
    clear c7
    gi_loopw [22] (fun i wr => ∃ k : Nat, k ≤ t.parts.length ∧ i = .int .i64 k ∧ Hid (J (refsS t ++ (t.parts.map Part.type).take k) wr) ∧ Hid (Ext w0 wr) ∧ Hid (TyBox wr bx t (.slice Ap t.parts.length cp) (.slice Am t.methods.length cm) vo)) (fun i _ => t.parts.length - (intOf i).toNat)
    case atStart => exact ⟨0, by omega, rfl, Lib.hid (by simpa using Hj.out), Hx, Hb⟩
    case round =>
      obtain ⟨k, hk, rfl, Hjr, Hxr, Hbr⟩ := hrel
      by_cases hlt : k < t.parts.length
      · obtain ⟨b1, o1, rfl, d0, d1⟩ := Hsp.out k hlt
        replace d0 := Hxr.out.cell d0
        replace d1 := Hxr.out.cell d1
        obtain ⟨fn, tmps, assign, body, hy, hR⟩ := HY.out _ (t.parts[k]).type (wr.alloc (.cells #[.string (t.parts[k]).name, .int .i64 (t.parts[k]).type] 95)) (Hf.out.part _ (List.getElem_mem hlt)) (HJa.out _ _ _ Hjr.out) (HPl.out k)
        rw [List.append_assoc, take_map_one Part.type t.parts k hlt] at hR
        gi_wp2
        refine hR.mono ?_
        rintro e W3 (⟨rfl, hJ3, hk3⟩ | ⟨rfl, hJx3⟩)
        · have Hj3 := Lib.hid hJ3
          have Hk3 := Lib.hid hk3
          clear hJ3 hk3 d0 d1
          gi_wp2
          go_roundw
          case rel => exact ⟨k + 1, by omega, by go_num, Hj3, Hk3.out.ext (Hxr.out.alloc _), (Hbr.out.ext ((Ext.refl _).alloc _)).kp Hk3.out⟩
          case measure => simp [intOf]; omega
        · have Hj3 := Lib.hid hJx3
          clear hJx3 d0 d1
          gi_wp2
          refine bodyPost_ret (results_none rfl _ _ _) rfl ?_
          exact ⟨⟨_, rfl⟩, .inr ⟨_, trivial, Hj3.out⟩⟩
      · obtain rfl : k = t.parts.length := by omega
        have Hj1 := Lib.hid (by have h := Hjr.out; rwa [List.take_of_length_le (by simp)] at h : J (refsS t ++ t.parts.map Part.type) wr)
        have c8 := Hbr.out.at.c8
        simp only [Nat.zero_add] at c8
        clear Hjr hlt
        gi_wp2
        clear c8
        gi_loopw [35] (fun i wq => ∃ m : Nat, m ≤ t.methods.length ∧ i = .int .i64 m ∧ Hid (J (refsS t ++ (t.parts.map Part.type ++ (t.methods.take m).flatMap refsM)) wq) ∧ Hid (Ext w0 wq) ∧ Hid (TyBox wq bx t (.slice Ap t.parts.length cp) (.slice Am t.methods.length cm) vo)) (fun i _ => t.methods.length - (intOf i).toNat)
        case atStart => exact ⟨0, by omega, rfl, Lib.hid (by simpa using Hj1.out), Hxr, Hbr⟩
        case round =>
          clear Hj1 Hxr Hbr
          obtain ⟨m, hm, rfl, Hjq, Hxq, Hbq⟩ := hrel
          by_cases hlt : m < t.methods.length
          · obtain ⟨b2, o2, va, vr, rfl, hva, hvr, d0, d1, d2, d3, d4⟩ := Hsm.out m hlt
            obtain ⟨wo, rfl⟩ : ∃ wo : World, wo = wr := ⟨_, rfl⟩
            have Hflat := Lib.hid (flat_take_one refsM t.methods m hlt)
            replace d0 := Hxq.out.cell d0
            replace d1 := Hxq.out.cell d1
            replace d2 := Hxq.out.cell d2
            replace d3 := Hxq.out.cell d3
            replace d4 := Hxq.out.cell d4
            obtain ⟨Aa, ca, ea, hsa⟩ := hva.int
            obtain ⟨Av, cv, ev⟩ := hvr.len
            subst ea ev
            have Hsa := Lib.hid hsa
            have Hmb := Lib.hid (MethBox.made wo t.methods[m] (.slice Aa (t.methods[m]).args.length ca) (.slice Av (t.methods[m]).raises.length cv))
            have hal := Hal.out _ (List.getElem_mem hlt)
            have Hml := Lib.hid (HMl.out m hlt)
            have Hma := Lib.hid (Hf.out.arg _ (List.getElem_mem hlt))
            have Hmr := Lib.hid (Hf.out.result _ (List.getElem_mem hlt))
            have hmr : refsM t.methods[m] = (t.methods[m]).args ++ if 0 ≤ (t.methods[m]).result then [(t.methods[m]).result] else [] := rfl
            rw [hmr] at Hflat
            have Hjo := Lib.hid (HJa.out _ _ (.cells #[.string (t.methods[m]).name, .slice Aa (t.methods[m]).args.length ca, .int .i64 (t.methods[m]).result, .slice Av (t.methods[m]).raises.length cv, .string (t.methods[m]).proc] 74) Hjq.out)
            have Hxo := Lib.hid (Hxq.out.alloc (.cells #[.string (t.methods[m]).name, .slice Aa (t.methods[m]).args.length ca, .int .i64 (t.methods[m]).result, .slice Av (t.methods[m]).raises.length cv, .string (t.methods[m]).proc] 74))
            have Hbo := Lib.hid (Hbq.out.ext ((Ext.refl _).alloc (.cells #[.string (t.methods[m]).name, .slice Aa (t.methods[m]).args.length ca, .int .i64 (t.methods[m]).result, .slice Av (t.methods[m]).raises.length cv, .string (t.methods[m]).proc] 74)))
            generalize hM : t.methods[m] = M at *
            clear hva hvr hsa hmr Hjq Hxq Hbq HMl
            gi_wp2
            obtain ⟨b6, hb6⟩ : ∃ b6, b6 = wo.heap.size := ⟨_, rfl⟩
            rw [← hb6] at Hmb ⊢
            clear hb6 d0 d1 d2 d3 d4
            gi_loopw [43] (fun i wq => ∃ q : Nat, q ≤ M.args.length ∧ i = .int .i64 q ∧ Hid (J (refsS t ++ (t.parts.map Part.type ++ (t.methods.take m).flatMap refsM) ++ M.args.take q) wq) ∧ Hid (Ext w0 wq) ∧ Hid (TyBox wq bx t (.slice Ap t.parts.length cp) (.slice (some ⟨b2, o2, none⟩) t.methods.length cm) vo) ∧ Hid (MethBox wq b6 M (.slice Aa M.args.length ca) (.slice Av M.raises.length cv))) (fun i _ => M.args.length - (intOf i).toNat)
            case atStart => exact ⟨0, by omega, rfl, Lib.hid (by simpa using Hjo.out), Hxo, Hbo, Hmb⟩
            case round =>
              clear Hjo Hxo Hbo Hmb
              obtain ⟨q, hq, rfl, Hji, Hxi, Hbi, Hmi⟩ := hrel
              by_cases hla : q < M.args.length
              · obtain ⟨b3, o3, rfl, d0⟩ := Hsa.out q hla
                replace d0 := Hxi.out.cell d0
                obtain ⟨fn, tmps, assign, body, hy, hR⟩ := HY.out _ M.args[q] wr (Hma.out _ (List.getElem_mem hla)) Hji.out (Hml.out q)
                rw [List.append_assoc, take_one M.args q hla] at hR
                gi_wp2
                refine hR.mono ?_
                rintro e W3 (⟨rfl, hJ3, hk3⟩ | ⟨rfl, hJx3⟩)
                · have Hj3 := Lib.hid hJ3
                  have Hk3 := Lib.hid hk3
                  clear hJ3 hk3 d0
                  gi_wp2
                  go_roundw
                  case rel => exact ⟨q + 1, by omega, by go_num, Hj3, Hk3.out.ext Hxi.out, Hbi.out.kp Hk3.out, Hmi.out.kp Hk3.out⟩
                  case measure => simp [intOf]; omega
                · have Hj3 := Lib.hid hJx3
                  clear hJx3 d0
                  gi_wp2
                  refine bodyPost_ret (results_none rfl _ _ _) rfl ?_
                  exact ⟨⟨_, rfl⟩, .inr ⟨_, trivial, Hj3.out⟩⟩
              · obtain rfl : q = M.args.length := by omega
                have Hj2 := Lib.hid (by have h := Hji.out; rwa [List.take_length] at h : J (refsS t ++ (t.parts.map Part.type ++ (t.methods.take m).flatMap refsM) ++ M.args) wr)
                have m2 := heap_cell Hmi.out 2 _ rfl
                by_cases hr0 : 0 ≤ M.result
                · rw [if_pos hr0] at Hflat
                  obtain ⟨fn, tmps, assign, body, hy, hR⟩ := HY.out _ M.result wr (Hmr.out.elim (fun e => by omega) id) Hj2.out (by have := Hml.out M.args.length; rwa [List.take_length] at this)
                  rw [List.append_assoc, List.append_assoc, List.append_assoc, ← Hflat.out] at hR
                  clear hla Hji
                  gi_wp2
                  refine hR.mono ?_
                  rintro e W3 (⟨rfl, hJ3, hk3⟩ | ⟨rfl, hJx3⟩)
                  · have Hj3 := Lib.hid hJ3
                    have Hk3 := Lib.hid hk3
                    clear hJ3 hk3 m2
                    gi_wp2
                    go_roundw
                    case rel => exact ⟨m + 1, by omega, by go_num, Hj3, Hk3.out.ext Hxi.out, Hbi.out.kp Hk3.out⟩
                    case measure => simp [intOf]; omega
                  · have Hj3 := Lib.hid hJx3
                    clear hJx3 m2
                    gi_wp2
                    refine bodyPost_ret (results_none rfl _ _ _) rfl ?_
                    exact ⟨⟨_, rfl⟩, .inr ⟨_, trivial, Hj3.out⟩⟩
                · rw [if_neg hr0, List.append_nil] at Hflat
                  have hr1 : decide (0 ≤ M.result) = false := by simpa using hr0
                  have Hj3 := Lib.hid (by have h := Hj2.out; rwa [List.append_assoc, List.append_assoc, ← Hflat.out] at h : J (refsS t ++ (t.parts.map Part.type ++ (t.methods.take (m + 1)).flatMap refsM)) wr)
                  clear hla Hji
                  gi_wp2
                  refine ⟨fun _ h => (by cases h), ?_⟩
                  gi_wp2
                  go_roundw
                  case rel => exact ⟨m + 1, by omega, by go_num, Hj3, Hxi, Hbi⟩
                  case measure => simp [intOf]; omega
          · obtain rfl : m = t.methods.length := by omega
            have Hj2 := Lib.hid (by have h := Hjq.out; rwa [List.take_length] at h : J (refsL t) wr)
            gi_wp2
            go_end0
            exact ⟨⟨_, rfl⟩, .inl ⟨_, rfl, Hj2.out⟩⟩
  · rw [hsup] at hs0
    simp only [if_true] at hs0
    have Hsup := Lib.hid hsup
    obtain ⟨fn, tmps, assign, body, hy, hR⟩ := HY.out [] t.super W (Hf.out.super hsup) h0 (by simp)
    rw [List.nil_append, ← hs0] at hR
    clear hsup hs0 h0
    gi_wp2_with (refine ⟨trivial, ?_⟩; gi_at_call 63; refine (callsIn_wide.2 (hasSuper_any _ _)).mono ?_; rintro e w' ⟨rfl, rfl⟩; rw [Hsup.out])
    refine hR.mono ?_
    rintro e W3 (⟨rfl, hJ3, hk3⟩ | ⟨rfl, hJx3⟩)
    · have Hj := Lib.hid hJ3
      have Hx := Lib.hid (hk3.ext hx)
      replace Hb := Lib.hid (Hb.out.kp hk3)
      have c7 := Hb.out.at.c7
      simp only [Nat.zero_add] at c7
      clear c0 c6 hx Hsup hJ3 hk3 hR
      gi_wp2
      clear c7
      gi_loopw [22] (fun i wr => ∃ k : Nat, k ≤ t.parts.length ∧ i = .int .i64 k ∧ Hid (J (refsS t ++ (t.parts.map Part.type).take k) wr) ∧ Hid (Ext w0 wr) ∧ Hid (TyBox wr bx t (.slice Ap t.parts.length cp) (.slice Am t.methods.length cm) vo)) (fun i _ => t.parts.length - (intOf i).toNat)
      case atStart => exact ⟨0, by omega, rfl, Lib.hid (by simpa using Hj.out), Hx, Hb⟩
      case round =>
        obtain ⟨k, hk, rfl, Hjr, Hxr, Hbr⟩ := hrel
        by_cases hlt : k < t.parts.length
        · obtain ⟨b1, o1, rfl, d0, d1⟩ := Hsp.out k hlt
          replace d0 := Hxr.out.cell d0
          replace d1 := Hxr.out.cell d1
          obtain ⟨fn, tmps, assign, body, hy, hR⟩ := HY.out _ (t.parts[k]).type (wr.alloc (.cells #[.string (t.parts[k]).name, .int .i64 (t.parts[k]).type] 95)) (Hf.out.part _ (List.getElem_mem hlt)) (HJa.out _ _ _ Hjr.out) (HPl.out k)
          rw [List.append_assoc, take_map_one Part.type t.parts k hlt] at hR
          gi_wp2
          refine hR.mono ?_
          rintro e W3 (⟨rfl, hJ3, hk3⟩ | ⟨rfl, hJx3⟩)
          · have Hj3 := Lib.hid hJ3
            have Hk3 := Lib.hid hk3
            clear hJ3 hk3 d0 d1
            gi_wp2
            go_roundw
            case rel => exact ⟨k + 1, by omega, by go_num, Hj3, Hk3.out.ext (Hxr.out.alloc _), (Hbr.out.ext ((Ext.refl _).alloc _)).kp Hk3.out⟩
            case measure => simp [intOf]; omega
          · have Hj3 := Lib.hid hJx3
            clear hJx3 d0 d1
            gi_wp2
            refine bodyPost_ret (results_none rfl _ _ _) rfl ?_
            exact ⟨⟨_, rfl⟩, .inr ⟨_, trivial, Hj3.out⟩⟩
        · obtain rfl : k = t.parts.length := by omega
          have Hj1 := Lib.hid (by have h := Hjr.out; rwa [List.take_of_length_le (by simp)] at h : J (refsS t ++ t.parts.map Part.type) wr)
          have c8 := Hbr.out.at.c8
          simp only [Nat.zero_add] at c8
          clear Hjr hlt
          gi_wp2
          clear c8
          gi_loopw [35] (fun i wq => ∃ m : Nat, m ≤ t.methods.length ∧ i = .int .i64 m ∧ Hid (J (refsS t ++ (t.parts.map Part.type ++ (t.methods.take m).flatMap refsM)) wq) ∧ Hid (Ext w0 wq) ∧ Hid (TyBox wq bx t (.slice Ap t.parts.length cp) (.slice Am t.methods.length cm) vo)) (fun i _ => t.methods.length - (intOf i).toNat)
          case atStart => exact ⟨0, by omega, rfl, Lib.hid (by simpa using Hj1.out), Hxr, Hbr⟩
          case round =>
            clear Hj1 Hxr Hbr
            obtain ⟨m, hm, rfl, Hjq, Hxq, Hbq⟩ := hrel
            by_cases hlt : m < t.methods.length
            · obtain ⟨b2, o2, va, vr, rfl, hva, hvr, d0, d1, d2, d3, d4⟩ := Hsm.out m hlt
              obtain ⟨wo, rfl⟩ : ∃ wo : World, wo = wr := ⟨_, rfl⟩
              have Hflat := Lib.hid (flat_take_one refsM t.methods m hlt)
              replace d0 := Hxq.out.cell d0
              replace d1 := Hxq.out.cell d1
              replace d2 := Hxq.out.cell d2
              replace d3 := Hxq.out.cell d3
              replace d4 := Hxq.out.cell d4
              obtain ⟨Aa, ca, ea, hsa⟩ := hva.int
              obtain ⟨Av, cv, ev⟩ := hvr.len
              subst ea ev
              have Hsa := Lib.hid hsa
              have Hmb := Lib.hid (MethBox.made wo t.methods[m] (.slice Aa (t.methods[m]).args.length ca) (.slice Av (t.methods[m]).raises.length cv))
              have hal := Hal.out _ (List.getElem_mem hlt)
              have Hml := Lib.hid (HMl.out m hlt)
              have Hma := Lib.hid (Hf.out.arg _ (List.getElem_mem hlt))
              have Hmr := Lib.hid (Hf.out.result _ (List.getElem_mem hlt))
              have hmr : refsM t.methods[m] = (t.methods[m]).args ++ if 0 ≤ (t.methods[m]).result then [(t.methods[m]).result] else [] := rfl
              rw [hmr] at Hflat
              have Hjo := Lib.hid (HJa.out _ _ (.cells #[.string (t.methods[m]).name, .slice Aa (t.methods[m]).args.length ca, .int .i64 (t.methods[m]).result, .slice Av (t.methods[m]).raises.length cv, .string (t.methods[m]).proc] 74) Hjq.out)
              have Hxo := Lib.hid (Hxq.out.alloc (.cells #[.string (t.methods[m]).name, .slice Aa (t.methods[m]).args.length ca, .int .i64 (t.methods[m]).result, .slice Av (t.methods[m]).raises.length cv, .string (t.methods[m]).proc] 74))
              have Hbo := Lib.hid (Hbq.out.ext ((Ext.refl _).alloc (.cells #[.string (t.methods[m]).name, .slice Aa (t.methods[m]).args.length ca, .int .i64 (t.methods[m]).result, .slice Av (t.methods[m]).raises.length cv, .string (t.methods[m]).proc] 74)))
              generalize hM : t.methods[m] = M at *
              clear hva hvr hsa hmr Hjq Hxq Hbq HMl
              gi_wp2
              obtain ⟨b6, hb6⟩ : ∃ b6, b6 = wo.heap.size := ⟨_, rfl⟩
              rw [← hb6] at Hmb ⊢
              clear hb6 d0 d1 d2 d3 d4
              gi_loopw [43] (fun i wq => ∃ q : Nat, q ≤ M.args.length ∧ i = .int .i64 q ∧ Hid (J (refsS t ++ (t.parts.map Part.type ++ (t.methods.take m).flatMap refsM) ++ M.args.take q) wq) ∧ Hid (Ext w0 wq) ∧ Hid (TyBox wq bx t (.slice Ap t.parts.length cp) (.slice (some ⟨b2, o2, none⟩) t.methods.length cm) vo) ∧ Hid (MethBox wq b6 M (.slice Aa M.args.length ca) (.slice Av M.raises.length cv))) (fun i _ => M.args.length - (intOf i).toNat)
              case atStart => exact ⟨0, by omega, rfl, Lib.hid (by simpa using Hjo.out), Hxo, Hbo, Hmb⟩
              case round =>
                clear Hjo Hxo Hbo Hmb
                obtain ⟨q, hq, rfl, Hji, Hxi, Hbi, Hmi⟩ := hrel
                by_cases hla : q < M.args.length
                · obtain ⟨b3, o3, rfl, d0⟩ := Hsa.out q hla
                  replace d0 := Hxi.out.cell d0
                  obtain ⟨fn, tmps, assign, body, hy, hR⟩ := HY.out _ M.args[q] wr (Hma.out _ (List.getElem_mem hla)) Hji.out (Hml.out q)
                  rw [List.append_assoc, take_one M.args q hla] at hR
                  gi_wp2
                  refine hR.mono ?_
                  rintro e W3 (⟨rfl, hJ3, hk3⟩ | ⟨rfl, hJx3⟩)
                  · have Hj3 := Lib.hid hJ3
                    have Hk3 := Lib.hid hk3
                    clear hJ3 hk3 d0
                    gi_wp2
                    go_roundw
                    case rel => exact ⟨q + 1, by omega, by go_num, Hj3, Hk3.out.ext Hxi.out, Hbi.out.kp Hk3.out, Hmi.out.kp Hk3.out⟩
                    case measure => simp [intOf]; omega
                  · have Hj3 := Lib.hid hJx3
                    clear hJx3 d0
                    gi_wp2
                    refine bodyPost_ret (results_none rfl _ _ _) rfl ?_
                    exact ⟨⟨_, rfl⟩, .inr ⟨_, trivial, Hj3.out⟩⟩
                · obtain rfl : q = M.args.length := by omega
                  have Hj2 := Lib.hid (by have h := Hji.out; rwa [List.take_length] at h : J (refsS t ++ (t.parts.map Part.type ++ (t.methods.take m).flatMap refsM) ++ M.args) wr)
                  have m2 := heap_cell Hmi.out 2 _ rfl
                  by_cases hr0 : 0 ≤ M.result
                  · rw [if_pos hr0] at Hflat
                    obtain ⟨fn, tmps, assign, body, hy, hR⟩ := HY.out _ M.result wr (Hmr.out.elim (fun e => by omega) id) Hj2.out (by have := Hml.out M.args.length; rwa [List.take_length] at this)
                    rw [List.append_assoc, List.append_assoc, List.append_assoc, ← Hflat.out] at hR
                    clear hla Hji
                    gi_wp2
                    refine hR.mono ?_
                    rintro e W3 (⟨rfl, hJ3, hk3⟩ | ⟨rfl, hJx3⟩)
                    · have Hj3 := Lib.hid hJ3
                      have Hk3 := Lib.hid hk3
                      clear hJ3 hk3 m2
                      gi_wp2
                      go_roundw
                      case rel => exact ⟨m + 1, by omega, by go_num, Hj3, Hk3.out.ext Hxi.out, Hbi.out.kp Hk3.out⟩
                      case measure => simp [intOf]; omega
                    · have Hj3 := Lib.hid hJx3
                      clear hJx3 m2
                      gi_wp2
                      refine bodyPost_ret (results_none rfl _ _ _) rfl ?_
                      exact ⟨⟨_, rfl⟩, .inr ⟨_, trivial, Hj3.out⟩⟩
                  · rw [if_neg hr0, List.append_nil] at Hflat
                    have hr1 : decide (0 ≤ M.result) = false := by simpa using hr0
                    have Hj3 := Lib.hid (by have h := Hj2.out; rwa [List.append_assoc, List.append_assoc, ← Hflat.out] at h : J (refsS t ++ (t.parts.map Part.type ++ (t.methods.take (m + 1)).flatMap refsM)) wr)
                    clear hla Hji
                    gi_wp2
                    refine ⟨fun _ h => (by cases h), ?_⟩
                    gi_wp2
                    go_roundw
                    case rel => exact ⟨m + 1, by omega, by go_num, Hj3, Hxi, Hbi⟩
                    case measure => simp [intOf]; omega
            · obtain rfl : m = t.methods.length := by omega
              have Hj2 := Lib.hid (by have h := Hjq.out; rwa [List.take_length] at h : J (refsL t) wr)
              gi_wp2
              go_end0
              exact ⟨⟨_, rfl⟩, .inl ⟨_, rfl, Hj2.out⟩⟩
    · have Hj3 := Lib.hid hJx3
      clear hJx3
      gi_wp2
      refine bodyPost_ret (results_none rfl _ _ _) rfl ?_
      exact ⟨⟨_, rfl⟩, .inr ⟨_, trivial, Hj3.out⟩⟩
end Go.Proofs.YtldnjnnhfeobdaaGreatDoor
/- Contracts: refs, slices.AppendSeq, slices.Collect, list. Conditions: the type is right. -/
namespace Go.Proofs.YtldnjnnhfeobdaaGreatDoor
set_option linter.all false
set_option linter.unusedSimpArgs false
set_option linter.unusedVariables false
open Go.RowKit Go.Shelf
attribute [local go_sem] Oper.semAt_some

/-- a function value that yields xs, made in w -/
def GivesR (w : World) (n₀ g bx : Nat) (xs : List Int) : Prop :=
  Enters Tryz.prog g ∧ ∀ n, 1 ≤ n → SeqStopsK Fence.wide n Tryz.prog g #[.pointer (some ⟨bx, 0, none⟩)] (fun x : Int => #[Value.int .i64 x]) (KpR n₀) (fun ys => ys = xs) (fun _ => True) 66 w
theorem refs_gives {w0 w : World} {bx nn : Nat} {t : Ty} {vp vm vo : Value} (hx : Ext w0 w) (hof : TyOf w0 t vp vm vo) (hf : Fine nn t) (hb : TyBox w bx t vp vm vo) : GivesR w w0.heap.size 152 bx (refsL t) :=
  ⟨enters_of Tryz.func152 (by kernel_rfl) rfl, fun n hn l J Jx W hW hJ hJx hY h0 => refs1_in n hn l bx nn w0 t vp vm vo hof hf J Jx (fun pre x W _ => hY pre x W) W (hx.trans hW) (hb.ext hW) hJ h0⟩

/-- a function value that yields xs, all of them numbers below nn -/
abbrev Bel (nn : Nat) := { x : Int // 0 ≤ x ∧ x < nn }
def GivesN (w : World) (n₀ g bx nn : Nat) (xs : List Int) : Prop :=
  Enters Tryz.prog g ∧ ∀ n, 1 ≤ n → SeqStopsK Fence.wide n Tryz.prog g #[.pointer (some ⟨bx, 0, none⟩)] (fun x : Bel nn => #[Value.int .i64 x.1]) (KpR n₀) (fun ys => ys.map (·.1) = xs) (fun _ => True) 66 w
theorem refs_givesN {w0 w : World} {bx nn : Nat} {t : Ty} {vp vm vo : Value} (hx : Ext w0 w) (hof : TyOf w0 t vp vm vo) (hf : Fine nn t) (hb : TyBox w bx t vp vm vo) : GivesN w w0.heap.size 152 bx nn (refsL t) :=
  ⟨enters_of Tryz.func152 (by kernel_rfl) rfl, fun n hn l J Jx W hW hJ hJx hY h0 => by
    have key := refs1_in n hn l bx nn w0 t vp vm vo hof hf (fun pre W => ∃ pre' : List (Bel nn), pre'.map (·.1) = pre ∧ J pre' W) (fun pre W => ∃ pre' : List (Bel nn), pre'.map (·.1) = pre ∧ Jx pre' W)
      (fun pre x W hx ⟨pre', e, h⟩ hl => (hY pre' ⟨x, hx⟩ W h (by rw [← e] at hl; simpa using hl)).mono fun e' W' h' => h'.imp (fun ⟨a, b, c⟩ => ⟨a, ⟨pre' ++ [⟨x, hx⟩], by simp [e], b⟩, c⟩) (fun ⟨a, b⟩ => ⟨a, ⟨pre' ++ [⟨x, hx⟩], by simp [e], b⟩⟩))
      W (hx.trans hW) (hb.ext hW) (fun s X Y row ⟨pre', e, h⟩ hg hr => ⟨pre', e, hJ pre' X Y row h hg hr⟩) ⟨[], rfl, h0⟩
    refine key.mono fun e W' ⟨hv, h⟩ => ⟨hv, h.imp (fun ⟨xs, e, ys, e2, h⟩ => ⟨ys, e2.trans e, h⟩) (fun ⟨pre, _, ys, _, h⟩ => ⟨ys, trivial, h⟩)⟩⟩
/-- what refs hands back -/
def RefsPost (w : World) (t : Ty) (e : Ending) (w' : World) : Prop :=
  ∃ bx vp vm vo, e = .returned (.func (.func 152) #[] #[.pointer (some ⟨bx, 0, none⟩)]) ∧ TyBox w' bx t vp vm vo ∧ TyOf w t vp vm vo ∧ Ext w w' ∧ w.heap.size ≤ bx
set_option maxRecDepth 100000 in
set_option maxHeartbeats 1000000 in
theorem refs_any (w : World) (gv : Value) (g : Graph) (i : Nat) (hg : Sl tyE w gv g) (hi : i < g.length) (hn : g.length ≤ 1048576) :
    Calls Tryz.prog 108 #[.agg #[gv], .int .i64 i] w (RefsPost w (getT g i)) := by
  obtain ⟨A, cap, rfl, hs⟩ := hg.ty
  obtain ⟨b, off, vp, vm, vo, rfl, hat, hof⟩ := hs i hi
  have hof' := hof
  obtain ⟨A1, c1, e1⟩ := hof.parts.len
  obtain ⟨A2, c2, e2⟩ := hof.methods.len
  obtain ⟨A3, c3, e3⟩ := hof.overs.len
  subst e1 e2 e3
  rw [getT_lt hi]
  have Hof := Lib.hid hof
  generalize g[i] = t at *
  obtain ⟨d0, d1, d2, d3, d4, d5, d6, d7, d8, d9⟩ := hat
  have hlt := cell_lt d0
  have hi0 : (0 : Int) ≤ (i : Int) := by omega
  have hi1 : (i : Int) < (g.length : Int) := by omega
  clear hs hg hof hof'
  go_enter Tryz.func108, Tryz.ntmps108
  go_wp2_with fail
  go_ret
  have hbox := World.alloc_heap_new (w.alloc (.cells #[.slice (some ⟨b, off, none⟩) g.length cap] 77)) (.cells #[.int .u8 t.kind, .int .i64 t.low, .int .i64 t.high, .bool t.branded, .string t.brand, .string t.opaq, .int .i64 t.super, .slice A1 t.parts.length c1, .slice A2 t.methods.length c2, .slice A3 t.overs.length c3] 42)
  rw [World.size_alloc] at hbox
  exact ⟨_, _, _, _, rfl, hbox, Hof.out, ((Ext.refl _).alloc _).alloc _, by simp⟩

/-- .. where the type lies since w0 -/
def RefsPost2 (w0 w : World) (t : Ty) (e : Ending) (w' : World) : Prop :=
  ∃ bx vp vm vo, e = .returned (.func (.func 152) #[] #[.pointer (some ⟨bx, 0, none⟩)]) ∧ TyBox w' bx t vp vm vo ∧ TyOf w0 t vp vm vo ∧ Ext w w' ∧ w.heap.size ≤ bx
set_option maxRecDepth 100000 in
set_option maxHeartbeats 1000000 in
theorem refs_any2 (w0 w : World) (gv : Value) (g : Graph) (i : Nat) (hx0 : Ext w0 w) (hg : Sl tyE w0 gv g) (hi : i < g.length) (hn : g.length ≤ 1048576) :
    Calls Tryz.prog 108 #[.agg #[gv], .int .i64 i] w (RefsPost2 w0 w (getT g i)) := by
  obtain ⟨A, cap, rfl, hs⟩ := hg.ty
  obtain ⟨b, off, vp, vm, vo, rfl, hat, hof⟩ := hs i hi
  have hof' := hof
  obtain ⟨A1, c1, e1⟩ := hof.parts.len
  obtain ⟨A2, c2, e2⟩ := hof.methods.len
  obtain ⟨A3, c3, e3⟩ := hof.overs.len
  subst e1 e2 e3
  rw [getT_lt hi]
  have Hof := Lib.hid hof
  generalize g[i] = t at *
  obtain ⟨d0, d1, d2, d3, d4, d5, d6, d7, d8, d9⟩ := hat.mono hx0
  have hlt := cell_lt d0
  have hi0 : (0 : Int) ≤ (i : Int) := by omega
  have hi1 : (i : Int) < (g.length : Int) := by omega
  clear hs hg hof hof'
  go_enter Tryz.func108, Tryz.ntmps108
  go_wp2_with fail
  go_ret
  have hbox := World.alloc_heap_new (w.alloc (.cells #[.slice (some ⟨b, off, none⟩) g.length cap] 77)) (.cells #[.int .u8 t.kind, .int .i64 t.low, .int .i64 t.high, .bool t.branded, .string t.brand, .string t.opaq, .int .i64 t.super, .slice A1 t.parts.length c1, .slice A2 t.methods.length c2, .slice A3 t.overs.length c3] 42)
  rw [World.size_alloc] at hbox
  exact ⟨_, _, _, _, rfl, hbox, Hof.out, ((Ext.refl _).alloc _).alloc _, by simp⟩

theorem infoI : (Tryz.prog.info? 3).map (fun i => (i.zero, i.size, i.bytes)) = some (some (.int .i64 0), 1, 8) := by kernel_rfl
/-- behind 'out = append(out, x)' types and methods in boxes lie as they lay -/
theorem kp_appended {W w1 : World} {n₀ B : Nat} {v v' : Value} {k m : Nat} {xs ys : List Value} {tmp : Obj}
    (hv : Boxed W B 24 v) (hrow : W.ownsRow n₀ 3 1 v k xs) (hn₀ : n₀ ≤ W.heap.size) (hB : n₀ ≤ B)
    (hown' : w1.ownsRow n₀ 3 1 v' m ys) (hgrow : (W.alloc tmp).grownBy w1 v.ownBlock) : KpR n₀ W (w1.setCell ⟨B, 0, none⟩ v') := by
  refine ⟨(hv.appended (by decide) hrow hn₀ hB hown' hgrow).2.2.2.2, fun b c ty f ht hb => ?_⟩
  have hlt : b < W.heap.size := (Array.getElem?_eq_some_iff.1 hb).1
  have h1 : b ≠ B := by
    rintro rfl
    have := (show W.heap[b]? = _ from hv).symm.trans hb
    rcases ht with rfl | rfl <;> simp at this
  rw [Below.heap_setCell _ _ _ _ h1, hgrow.block b (by simp; omega) ?_, Below.heap_alloc _ _ _ hlt]
  · exact hb
  · rcases hrow.2 with ⟨rfl, _⟩ | ⟨g, cap, cur, rfl, _, hgb, _⟩
    · simp [Value.ownBlock]
    · intro e
      obtain rfl : b = g := by simpa [Value.ownBlock] using e
      have := hgb.symm.trans hb
      rcases ht with rfl | rfl <;> simp at this

set_option maxRecDepth 100000 in
set_option maxHeartbeats 2000000 in
theorem appendSeq_in (n : Nat) (hn : 3 ≤ n) (w : World) (n₀ g bx : Nat) (xs : List Int) (hn₀ : n₀ ≤ w.heap.size) (hg : GivesR w n₀ g bx xs) :
    CallsIn Fence.wide n Tryz.prog 151 #[.slice none 0 0, .func (.func g) #[] #[.pointer (some ⟨bx, 0, none⟩)]] w fun e W' => ∃ v, e = .returned v ∧ W'.ownsRow w.heap.size 3 1 v xs.length (xs.map (Value.int .i64)) ∧ Below w.heap.size w W' := by
  have h1 : 1 ≤ n := by omega
  obtain ⟨i0, hi, hz0, hz1, hz2⟩ := info_parts infoI
  obtain ⟨eg, hseq⟩ := hg
  have Hseq := Lib.hid (hseq (n - 1) (by omega))
  have eg' : ∀ args w, (callFunc g args).run Tryz.prog w = .ok (.enter g args) w := eg
  clear hseq eg
  refine callsIn_of_wp_marks Tryz.func151 rfl trivial ?_ rfl
  simp only [Tryz.ntmps151, List.size_toArray, List.length_cons, List.length_nil, Nat.reduceAdd, Nat.reduceSub, Array.replicate_succ, Array.replicate_zero, List.push_toArray, List.append_toArray, List.nil_append, List.cons_append]
  gi_wp2
  have bO := Boxed.new w 24 (.slice none 0 0)
  have hB0 : Below w.heap.size w (w.alloc (.cells #[.slice none 0 0] 24)) := (Below.refl _ w).alloc (Nat.le_refl _) _
  refine wpIn_rangeFunc_ownG rfl h1 (gf := g) (lb := #[.pointer (some ⟨bx, 0, none⟩)]) rfl trivial eg' (w0 := w)
    Hseq.out KpR.trans (KpR.book (by simp; omega)) hB0 (fun _ => rfl)
    (fun pre W => (∃ v, Boxed W w.heap.size 24 v ∧ W.ownsRow w.heap.size 3 1 v pre.length (pre.map (Value.int .i64)) ∧ True) ∧ Below w.heap.size w W)
    (fun _ _ _ => False)
    (OwnFrom.and (Own.from (holdsRow_own w.heap.size w.heap.size 24 3 1 (fun pre : List Int => pre.length) (fun pre => pre.map (Value.int .i64)) (fun pre v => True)) _) (ownFrom_below (Nat.le_refl _) (by simp)))
    (fun _ _ _ _ _ hs _ _ => hs)
    ⟨⟨_, bO, World.ownsRow_nil _ _ _ _, trivial⟩, hB0⟩
    (fun x => { tmps := #[.slice none 0 0, .func (.func g) #[] #[.pointer (some ⟨bx, 0, none⟩)], .pointer (some ⟨w.heap.size, 0, none⟩), undef, .slice none 0 0, .int .i64 x, .func (.func g) #[] #[.pointer (some ⟨bx, 0, none⟩)], .int .i64 x, undef, undef, undef, undef, undef], defers := [] }) ?assign ?body ?done ?stop
  case assign =>
    intro l x W K hK
    gi_wp2
    exact hK
  case body =>
    rintro l pre x W ⟨⟨v, hv, hrow, _⟩, hB⟩ hlt
    have hc := hv.cell
    gi_wp2_with (gi_at_builtin; refine wpListIn_append_own _ rfl _ _ 24 rfl w.heap.size 3 i0 (.int .i64 0) 1 8 Tryz.underlying24 hi hz0 hz1 hz2 rfl (by decide) _ _ _ rfl (hrow.alloc _) ⟨W.heap.size, 0, none⟩ 1 1 [.int .i64 x] rfl rfl (cell_one_new _ _ _) (by simp [Value.oneCell']) (by simp only [maxLen]; omega) (by omega) (by have := hB.size; simp; omega) ?_; intro v' w1 hown' hgrow _; obtain ⟨g', cap', rfl⟩ := ownsRow_succ hown'; obtain ⟨hv1, hv2, hr2, hk2, hb2⟩ := hv.appended (by decide) hrow hB.size (Nat.le_refl _) hown' hgrow; have hkp := Lib.hid (kp_appended hv hrow hB.size (Nat.le_refl _) hown' hgrow); have hc1 := hv1.cell; have hf1 := hv1.frozen)
    exact ⟨hk2.from _, ⟨hb2.mono hn₀, hkp.out.2⟩, ⟨_, hv2, by simpa using hr2, trivial⟩, hB.trans hb2⟩
  case done =>
    rintro D ys W hD rfl ⟨⟨v, hv, hrow, _⟩, hB⟩ hK
    have hc := hv.cell
    gi_wp2
    refine ⟨by simp, .inl ⟨_, _, rfl, run_takeDeferred hK, ?_⟩⟩
    exact ⟨_, results_tmp rfl _ _ _, v, rfl, ownsRow_putObj hrow _ hK rfl, hB.trans (belowK_b (w := w) (Nat.le_refl _) W D _ _ (by simp at hD; omega) hK rfl rfl)⟩
  case stop =>
    rintro D c pre W _ _ h _
    exact h.elim

set_option maxRecDepth 100000 in
theorem collect_in (n : Nat) (hn : 4 ≤ n) (w : World) (n₀ g bx : Nat) (xs : List Int) (hn₀ : n₀ ≤ w.heap.size) (hg : GivesR w n₀ g bx xs) :
    CallsIn Fence.wide n Tryz.prog 107 #[.func (.func g) #[] #[.pointer (some ⟨bx, 0, none⟩)]] w fun e W' => ∃ v, e = .returned v ∧ W'.ownsRow w.heap.size 3 1 v xs.length (xs.map (Value.int .i64)) ∧ Below w.heap.size w W' := by
  have Hc := Lib.hid (appendSeq_in (n - 1) (by omega) w n₀ g bx xs hn₀ hg)
  have h1 : 1 ≤ n := by omega
  clear hg
  refine callsIn_of_wp Tryz.func107 rfl trivial ?_ rfl
  simp only [Tryz.ntmps107, List.size_toArray, List.length_cons, List.length_nil, Nat.reduceAdd, Nat.reduceSub, Array.replicate_succ, Array.replicate_zero, List.push_toArray, List.append_toArray, List.nil_append, List.cons_append]
  gi_wp2_with (refine ⟨trivial, ?_⟩; gi_at_call 151; refine Hc.out.mono ?_; rintro e w' ⟨v, rfl, hrow, hb⟩)
  go_ret
  exact ⟨v, rfl, hrow, hb⟩

theorem ownsRow_sl {w w' : World} {v : Value} {xs : List Int} (h : w'.ownsRow w.heap.size 3 1 v xs.length (xs.map (Value.int .i64))) : SlF (New w) intE w' v xs := by
  rcases h.2 with ⟨rfl, h0⟩ | ⟨g, cap, cur, rfl, hg, hb, hle, _, _, hc⟩
  · have : xs = [] := List.eq_nil_of_length_eq_zero h0
    subst this
    exact SlF.nil _ _ _
  · refine ⟨_, cap, rfl, fun i x hi => ⟨g, 0, [.int .i64 x], rfl, ⟨hg, hle⟩, rfl, fun j u hj => ?_⟩⟩
    have hlt : i < xs.length := (List.getElem?_eq_some_iff.1 hi).1
    cases j with
    | succ j => simp at hj
    | zero =>
      simp at hj
      subst hj
      have h1 : (cur.toList.take (xs.length * 1))[i]? = some (.int .i64 x) := by rw [hc]; simp [hi]
      rw [List.getElem?_take_of_lt (by omega)] at h1
      simp only [World.cell?, intE, Nat.mul_one, Nat.zero_add, Nat.add_zero, hb]
      simpa using h1

/-- a fresh slice of ints -/
def ResSl {α : Type} (E : Elt α) (w : World) (xs : List α) (w' : World) (v : Value) : Prop := SlF (New w) E w' v xs
set_option maxRecDepth 100000 in
set_option maxHeartbeats 1000000 in
theorem list_any (w : World) (gv : Value) (g : Graph) (i nn : Nat) (hg : Sl tyE w gv g) (hi : i < g.length) (hn : g.length ≤ 1048576) (hf : Fine nn (getT g i)) :
    Calls Tryz.prog 56 #[.agg #[gv], .int .i64 i] w (RetP w (ResSl intE w (refsL (getT g i)))) := by
  have hx0 := (Ext.refl w).alloc (.cells #[gv] 77)
  have hr := fun w' (hx : Ext w w') => refs_any w' gv g i (hg.mono hx) hi hn
  have hc := fun (w1 w2 : World) (bx : Nat) vp vm vo (h1 : TyBox w2 bx (getT g i) vp vm vo) (h2 : TyOf w1 (getT g i) vp vm vo) (h3 : Ext w1 w2) => (callsIn_wide (n := 6)).1 (collect_in 6 (by omega) w2 w1.heap.size 152 bx (refsL (getT g i)) h3.size (refs_gives h3 h2 hf h1))
  have Hr := Lib.hid hr
  have Hc := Lib.hid hc
  generalize getT g i = t at *
  obtain ⟨A, cap, rfl⟩ := hg.len
  clear hr hc hg hf
  go_enter Tryz.func56, Tryz.ntmps56
  go_wp2_with fail
  refine (Hr.out _ hx0).mono ?_
  rintro e w1 ⟨bx, vp, vm, vo, rfl, h1, h2, h3, h4⟩
  have h3' := Lib.hid h3
  go_wp2_with fail
  refine (Hc.out _ _ _ _ _ _ h1 h2 h3).mono ?_
  rintro e w2 ⟨v, rfl, hrow, hb⟩
  have hx2 : Ext w w2 := (hx0.trans h3).trans hb
  obtain ⟨A3, c3, e3⟩ := (ownsRow_sl hrow).any.len
  subst e3
  have Hrow := Lib.hid hrow
  clear hrow h1 h2 h3 hx0
  go_wp2_with fail
  go_ret
  exact ⟨_, rfl, SlF.mono (ownsRow_sl Hrow.out) (fun _ _ _ => rfl) (fun b hb' _ => by have h5 := h3'.out.size; simp at h5; unfold New at hb' ⊢; omega), hx2⟩
end Go.Proofs.YtldnjnnhfeobdaaGreatDoor
/- Regions that draw their order, whose operations read what lay before and call what leaves it: one walk in the order of the text. No condition. -/
namespace Go.Proofs.YtldnjnnhfeobdaaGreatDoor
set_option linter.all false
set_option linter.unusedSimpArgs false
set_option linter.unusedVariables false
open Go.RowKit Go.Shelf

section
variable {P : Program} {ops : Array Oper} {C : World → Prop} {Q : Act → Prop} {a : Act} {o : Oper} {rest : List Oper}
theorem wp_region_X {id : Nat} {Q : Exit → Act → World → Prop} {a : Act} {w : World} {l : List Oper} (hm : P.follows .mixedOrders = true) (hB : Region.lexB .any l.toArray = true) (C : World → Prop) (hC : C w.drew)
    (h : wpQuiet P l.toArray C (fun a' => ∀ w', C w' → Q .normal a' w') l a) : (Code.region id l.toArray true).wp P Q a w :=
  wp_region_quiet (C := C) hm hB hC (by simpa using h)
theorem X_want (hw : Region.wanted o (yielded ops a.tmps) = true) (h : o.quiet P a C (wpQuiet P ops C Q rest)) : wpQuiet P ops C Q (o :: rest) a :=
  wpQuiet_step fun K hK => by rw [if_pos hw]; exact Oper.quiet_mono hK h
theorem X_skip (hw : Region.wanted o (yielded ops a.tmps) = false) (h : wpQuiet P ops C Q rest (a.put o.dst undef)) : wpQuiet P ops C Q (o :: rest) a :=
  wpQuiet_step fun K hK => by rw [if_neg (by rw [hw]; exact Bool.false_ne_true)]; exact hK _ h
theorem X_val {K : Act → Prop} {v : Value} (h : ∀ w, C w → (execOp a.eval o).run P w = .ok (.value v) w) (hk : K (a.put o.dst v)) : o.quiet P a C K :=
  ⟨v, fun w hw => by unfold Oper.quietAt; rw [h w hw]; exact ⟨rfl, rfl⟩, hk⟩
theorem X_call {K : Act → Prop} {v : Value} {f : FuncId} {args : Array Value} (h : ∀ w, (execOp a.eval o).run P w = .ok (.enter f args) w) (hc : ∀ w, C w → Calls P f args w (fun e w' => e = .returned v ∧ C w')) (hk : K (a.put o.dst v)) : o.quiet P a C K :=
  ⟨v, fun w hw => by unfold Oper.quietAt; rw [h w]; exact ⟨rfl, hc w hw⟩, hk⟩
end
section
variable {P : Program} {Q : Exit → Act → World → Prop} {a : Act} {w : World} {id : Nat} {ops : Array Oper}
theorem wp_region_anyX (hm : P.follows .mixedOrders = true) (h : wpAny P .any ops Q ops.size (Array.replicate ops.size false) a w.drew) : (Code.region id ops true).wp P Q a w := wp_region_any hm h
theorem any_val {i : Nat} {oi : Oper} {v : Value} (d : Option Nat) (l2 : Array Bool) {fuel : Nat} {listed : Array Bool} (hi : ops[i]? = some oi) (hd : oi.dst = d) (hl : listed.setIfInBounds i true = l2)
    (hs : Region.noSelect ops = true) (hf : Region.free .any ops listed i = true) (hr : (Region.ready .any ops listed).contains i = true)
    (hQ : ∀ c a w, Q (.panic c) (a.put oi.dst v) w → Q (.panic c) a w) (hy : Yields P ops oi v a)
    (h : wpAny P .any ops Q fuel l2 (a.put d v) w) : wpAny P .any ops Q (fuel + 1) listed a w :=
  wpAny_take hi hs hf hr hQ hy (by rw [hd, hl]; exact h)
end
end Go.Proofs.YtldnjnnhfeobdaaGreatDoor
/- Regions that draw their order, inside a round of a range over a function: what serves outside serves inside. No condition. -/
namespace Go.Proofs.YtldnjnnhfeobdaaGreatDoor
set_option linter.all false
set_option linter.unusedSimpArgs false
set_option linter.unusedVariables false
open Go.RowKit Go.Shelf

section
variable {P : Program} {Q : Exit → Act → World → Prop} {ops : Array Oper}
theorem rows_round (l n : Nat) {row : String} {args : Array Value} {w : World} {R : Value → World → Prop} (h : Rows P row args w R) : RowsIn (Fence.wide.inRound l) n P row args w R :=
  fun c cs _ => let ⟨v, w', r, s⟩ := h c cs; ⟨v, w', r, stepsIn_wide.2 s⟩
theorem upon_round (l n : Nat) {o : Oper} {a : Act} {K : Act → World → Prop} : ∀ {r : Result Next}, o.upon P a K Q r → o.uponIn (Fence.wide.inRound l) n P a K Q r
  | .ok (.value v) w', h => h
  | .ok .skip w', h => h
  | .ok (.defer d) w', h => h
  | .ok (.enter f args) w', h => ⟨(fun e => by cases e), ((callsIn_wide.2 h).inRound l).mono (R' := fun | .returned v, w'' => K (a.put o.dst v) w'' | .panicked chain, w'' => Q (.panic chain) a w'' | .outgrown, _ => LetsOut Q) (fun e w'' he => by cases e <;> exact he)⟩
  | .ok (.row row args) w', h => ⟨(fun e => by cases e), rows_round l (n - 1) h⟩
  | .halt (.panic v) w', h => h
theorem op_round (l n : Nat) (hno : ∀ (i : Nat) (o : Oper), ops[i]? = some o → ∀ c, o.op ≠ .defer c) (hQ : ¬ LetsOut Q) {i : Nat} {a : Act} {w : World} {K : Act → World → Prop} (h : wpOp P ops Q i K a w) : wpOpIn (Fence.wide.inRound l) n P ops Q i K a w := by
  unfold wpOp at h
  unfold wpOpIn
  cases ho : ops[i]? with
  | none => simpa [ho] using h
  | some o =>
    simp only [ho] at h ⊢
    split
    · rename_i hw
      simp only [hw, if_true] at h
      rcases h with h | h
      · refine ⟨fun _ _ => trivial, ?_⟩
        rw [Oper.semAt_eq _ _ _ (hno i o ho)]
        exact upon_round l n h
      · exact absurd h.2 hQ
    · rename_i hw
      simp only [hw] at h
      exact ⟨fun _ _ => trivial, h⟩
theorem any_round (l n : Nat) (hno : ∀ (i : Nat) (o : Oper), ops[i]? = some o → ∀ c, o.op ≠ .defer c) (hQ : ¬ LetsOut Q) (md : Region.Mode) : ∀ (fuel : Nat) (listed : Array Bool) (a : Act) (w : World), wpAny P md ops Q fuel listed a w → wpAnyIn (Fence.wide.inRound l) n P md ops Q fuel listed a w
  | 0, _, _, _, h => h
  | fuel + 1, listed, a, w, h => ⟨h.1, fun i hi => wpOpIn_mono (fun a' w' h' => any_round l n hno hQ md fuel _ a' w' h') (op_round l n hno hQ (h.2 i hi))⟩
/-- no operation is a defer statement -/
def noDefer (ops : List Oper) : Bool := ops.all fun o => match o.op with | .defer _ => false | _ => true
theorem noDefer_at {l : List Oper} (h : noDefer l = true) : ∀ (i : Nat) (o : Oper), l.toArray[i]? = some o → ∀ c, o.op ≠ .defer c := by
  intro i o ho c hc
  unfold noDefer at h
  rw [List.all_eq_true] at h
  have hm : o ∈ l := List.mem_of_getElem? (by simpa using ho)
  have := h o hm
  rw [hc] at this
  cases this
theorem wpIn_region_round {id : Nat} {l : List Oper} {lp n : Nat} {a : Act} {w : World} (hm : P.follows .mixedOrders = true) (hd : noDefer l = true) (hQ : ¬ LetsOut Q)
    (h : wpAny P .any l.toArray Q l.toArray.size (Array.replicate l.toArray.size false) a w.drew) : (Code.region id l.toArray true).wpIn (Fence.wide.inRound lp) n P Q a w :=
  wpIn_region_any hm (any_round lp n (noDefer_at hd) hQ .any _ _ _ _ h)
/-- only reads and quiet calls -/
theorem wpIn_region_X {id : Nat} {l : List Oper} {lp n : Nat} {a : Act} {w : World} (hm : P.follows .mixedOrders = true) (hB : Region.lexB .any l.toArray = true) (hd : noDefer l = true) (hQ : ¬ LetsOut Q) (C : World → Prop) (hC : C w.drew)
    (h : wpQuiet P l.toArray C (fun a' => ∀ w', C w' → Q .normal a' w') l a) : (Code.region id l.toArray true).wpIn (Fence.wide.inRound lp) n P Q a w := by
  simp only [Region.lexB, Bool.and_eq_true] at hB
  refine wpIn_region_round hm hd hQ (wpAny_of_quiet (Q := fun a' => ∀ w', C w' → Q .normal a' w') (fun _ w' hw' h => h w' hw') _ _ _ _ hC ?_)
  have := wpAnyQ_lex (C := C) (md := .any) hB.1 l.toArray.toList 0 (Array.replicate l.toArray.size false) a (by simp) (by simpa using hB.2) (by simpa using h)
  simpa using this
/-- reads and quiet calls, then one that is forced last -/
theorem wpIn_region_tail {id : Nat} {l : List Oper} {lp n : Nat} {a : Act} {w : World} (k : Nat) (hm : P.follows .mixedOrders = true) (hB : Region.lexTailB .any l.toArray k = true) (hd : noDefer l = true) (hQ : ¬ LetsOut Q)
    (h : wpStill P l.toArray w.drew (fun a' => wpList P l.toArray Q (l.drop k) a' w.drew) (l.take k) a) : (Code.region id l.toArray true).wpIn (Fence.wide.inRound lp) n P Q a w := by
  simp only [Region.lexTailB, Bool.and_eq_true, decide_eq_true_eq] at hB
  obtain ⟨⟨⟨⟨hsel, hn⟩, hs⟩, hc⟩, hlex⟩ := hB
  have hn' : k < l.length := by simpa using hn
  have htl : (l.take k).length = k := by simp; omega
  have hdl : (l.drop k).length = l.toArray.size - k := by simp
  have inv0 : HeadInv .any l.toArray k (Array.replicate l.toArray.size false) :=
    ⟨by simp, fun j oj _ hl => (by rw [getD_replicate_false] at hl; cases hl), fun t _ ht => getD_in (by simpa using ht) (getD_replicate_false _ _)⟩
  have H := wpAnyL_lex (md := .any) (g := l.toArray.size - k) hsel hs hc hn (l.take k) 0 _ a (fun j hj => by
    have hj' : j < k := by rw [htl] at hj; exact hj
    simp [hj']) (by simpa using htl) inv0 (by rw [htl]; exact hlex) h
  refine wpIn_region_round hm hd hQ ?_
  have := wpAny_of_head (Q' := Q) (g := l.toArray.size - k) (fun listed a' hL => by
    have := wpAny_of_seq (md := .any) (Q' := Q) (l.drop k) k listed a' w.drew (fun j => by simp [List.getElem?_drop]) (by rw [hdl]; exact hL.1) hL.2
    rwa [hdl] at this) _ _ _ H
  rw [htl, show k + (l.toArray.size - k) = l.toArray.size by omega] at this
  exact this
end
end Go.Proofs.YtldnjnnhfeobdaaGreatDoor
/- Plain theory: what is reached, each class once, level by level; two graphs that run beside each other reach the same. No program. No condition. -/
namespace Go.Proofs.YtldnjnnhfeobdaaGreatDoor
set_option linter.all false
set_option linter.unusedSimpArgs false
set_option linter.unusedVariables false

def addN (cls : Nat → Nat) : List Nat → List Nat → List Nat
  | out, [] => out
  | out, r :: rs => if cls r ∈ out.map cls then addN cls out rs else addN cls (out ++ [r]) rs
def reachN (cls : Nat → Nat) (rf : Nat → List Nat) : Nat → Nat → List Nat → List Nat
  | 0, _, out => out
  | f + 1, k, out => match out[k]? with
    | some i => reachN cls rf f (k + 1) (addN cls out (rf i))
    | none => out
/-- the place of a class -/
def posN (cls : Nat → Nat) (c : Nat) : List Nat → Nat
  | [] => 0
  | i :: l => if cls i = c then 0 else posN cls c l + 1

section
variable {cls : Nat → Nat} {rf : Nat → List Nat}
theorem addN_append (out xs ys : List Nat) : addN cls out (xs ++ ys) = addN cls (addN cls out xs) ys := by
  induction xs generalizing out with
  | nil => rfl
  | cons x xs ih =>
    simp only [List.cons_append, addN]
    split
    · exact ih out
    · exact ih _
theorem addN_one (out : List Nat) (r : Nat) : addN cls out [r] = if cls r ∈ out.map cls then out else out ++ [r] := rfl
theorem addN_spec : ∀ rs out, ∃ new, addN cls out rs = out ++ new ∧ (∀ r ∈ new, r ∈ rs) ∧ (∀ r ∈ rs, cls r ∈ (out ++ new).map cls) ∧ ((out.map cls).Nodup → ((out ++ new).map cls).Nodup) := by
  intro rs
  induction rs with
  | nil => intro out; exact ⟨[], by simp [addN], by simp, by simp, by simp⟩
  | cons r rs ih =>
    intro out
    unfold addN
    by_cases h : cls r ∈ out.map cls
    · rw [if_pos h]
      obtain ⟨new, h1, h2, h3, h4⟩ := ih out
      refine ⟨new, h1, fun q hq => by simp [h2 q hq], fun q hq => ?_, h4⟩
      rcases List.mem_cons.1 hq with rfl | hq
      · rw [List.map_append, List.mem_append]; exact .inl h
      · exact h3 q hq
    · rw [if_neg h]
      obtain ⟨new, h1, h2, h3, h4⟩ := ih (out ++ [r])
      refine ⟨r :: new, by rw [h1]; simp, fun q hq => ?_, fun q hq => ?_, fun hn => ?_⟩
      · rcases List.mem_cons.1 hq with rfl | hq
        · simp
        · simp [h2 q hq]
      · rcases List.mem_cons.1 hq with rfl | hq
        · simp
        · have := h3 q hq; simpa using this
      · have := h4 (by
          rw [List.map_append, List.nodup_append]
          exact ⟨hn, by simp, by rintro a ha b hb rfl; simp at hb; subst hb; exact h ha⟩)
        simpa using this

/-- what holds where the search stands at k -/
structure RInv (n : Nat) (cls : Nat → Nat) (rf : Nat → List Nat) (a k : Nat) (out : List Nat) : Prop where
  start : out[0]? = some a
  rng : ∀ i ∈ out, i < n
  nodup : (out.map cls).Nodup
  le : k ≤ out.length
  past : ∀ j i, j < k → out[j]? = some i → ∀ r ∈ rf i, cls r ∈ out.map cls
theorem RInv.len {n a k : Nat} {out : List Nat} (hc : ∀ i, i < n → cls i < n) (I : RInv n cls rf a k out) : out.length ≤ n := by
  have := nodup_length_le (s := out.map cls) (l := List.range n) I.nodup fun x hx => by
    obtain ⟨i, hi, rfl⟩ := List.mem_map.1 hx
    exact List.mem_range.2 (hc i (I.rng i hi))
  simpa using this
theorem RInv.init {n a : Nat} (ha : a < n) : RInv n cls rf a 0 [a] := ⟨rfl, by simp [ha], by simp, by simp, fun j i h => by omega⟩
theorem RInv.step {n a k i : Nat} {out : List Nat} (hr : ∀ i, i < n → ∀ r ∈ rf i, r < n) (I : RInv n cls rf a k out) (hk : out[k]? = some i) : RInv n cls rf a (k + 1) (addN cls out (rf i)) := by
  obtain ⟨new, h1, h2, h3, h4⟩ := addN_spec (cls := cls) (rf i) out
  rw [h1]
  have hlt := (List.getElem?_eq_some_iff.1 hk).1
  have hi : i < n := I.rng i (List.mem_of_getElem? hk)
  refine ⟨?_, fun j hj => ?_, h4 I.nodup, by rw [List.length_append]; omega, fun j q hj hq r hr' => ?_⟩
  · rw [List.getElem?_append_left (by omega)]; exact I.start
  · rcases List.mem_append.1 hj with hj | hj
    · exact I.rng j hj
    · exact hr i hi j (h2 j hj)
  · rw [List.getElem?_append_left (by omega)] at hq
    by_cases e : j = k
    · subst e
      rw [hk] at hq
      injection hq with hq
      subst hq
      exact h3 r hr'
    · have := I.past j q (by omega) hq r hr'
      rw [List.map_append, List.mem_append]; exact .inl this
theorem reachN_inv {n a : Nat} (hc : ∀ i, i < n → cls i < n) (hr : ∀ i, i < n → ∀ r ∈ rf i, r < n) : ∀ f k out, RInv n cls rf a k out → n < f + k → RInv n cls rf a (reachN cls rf f k out).length (reachN cls rf f k out) := by
  intro f
  induction f with
  | zero =>
    intro k out I h
    have := I.len hc
    have := I.le
    omega
  | succ f ih =>
    intro k out I h
    unfold reachN
    cases hk : out[k]? with
    | none =>
      have h1 : out.length ≤ k := by simpa using hk
      have h2 := I.le
      have : k = out.length := by omega
      subst this
      exact I
    | some i => exact ih (k + 1) _ (I.step hr hk) (by omega)
theorem reachN_done {f k : Nat} {out : List Nat} (h : out.length ≤ k) : reachN cls rf f k out = out := by
  cases f with
  | zero => rfl
  | succ f =>
    unfold reachN
    have : out[k]? = none := by simpa using h
    rw [this]
theorem reachN_go {f k i : Nat} {out : List Nat} (h : out[k]? = some i) : reachN cls rf (f + 1) k out = reachN cls rf f (k + 1) (addN cls out (rf i)) := by
  rw [reachN, h]

theorem posN_lt {c : Nat} : ∀ {l : List Nat}, c ∈ l.map cls → posN cls c l < l.length ∧ ∀ i, l[posN cls c l]? = some i → cls i = c
  | [], h => by simp at h
  | x :: l, h => by
    unfold posN
    by_cases e : cls x = c
    · rw [if_pos e]; exact ⟨by simp, fun i hi => by simp at hi; subst hi; exact e⟩
    · rw [if_neg e]
      have h' : c ∈ l.map cls := by
        rw [List.map_cons, List.mem_cons] at h
        rcases h with h | h
        · exact absurd h.symm e
        · exact h
      obtain ⟨h1, h2⟩ := posN_lt h'
      exact ⟨by simp; omega, fun i hi => h2 i (by simpa using hi)⟩
theorem posN_at : ∀ {l : List Nat} {k i : Nat}, (l.map cls).Nodup → l[k]? = some i → posN cls (cls i) l = k
  | [], k, i, _, h => by simp at h
  | x :: l, 0, i, hn, h => by
    simp at h; subst h
    simp [posN]
  | x :: l, k + 1, i, hn, h => by
    have h' : l[k]? = some i := by simpa using h
    rw [List.map_cons, List.nodup_cons] at hn
    have : cls x ≠ cls i := fun e => hn.1 (by rw [e]; exact List.mem_map_of_mem (List.mem_of_getElem? h'))
    unfold posN
    rw [if_neg this, posN_at hn.2 h']
theorem posN_snoc {c x : Nat} : ∀ {l : List Nat}, posN cls c (l ++ [x]) = if c ∈ l.map cls then posN cls c l else l.length + (if cls x = c then 0 else 1)
  | [] => by simp [posN]
  | y :: l => by
    simp only [List.cons_append, posN]
    by_cases e : cls y = c
    · simp [e]
    · have ih := posN_snoc (c := c) (x := x) (l := l)
      rw [if_neg e, if_neg e, ih]
      have : (c ∈ (y :: l).map cls) ↔ c ∈ l.map cls := by
        rw [List.map_cons, List.mem_cons]
        exact ⟨fun h => h.elim (fun h => absurd h.symm e) id, .inr⟩
      by_cases h : c ∈ l.map cls
      · rw [if_pos h, if_pos (this.2 h)]
      · rw [if_neg h, if_neg (fun h' => h (this.1 h'))]
        simp only [List.length_cons]; omega
end

/-! ### Two graphs beside each other -/
section
variable {R : Nat → Nat → Prop} {c1 c2 : Nat → Nat} {r1 r2 : Nat → List Nat}
theorem All2.snoc {xs ys : List Nat} {x y : Nat} (h : All2 R xs ys) (hxy : R x y) : All2 R (xs ++ [x]) (ys ++ [y]) := by
  induction h with
  | nil => exact .cons hxy .nil
  | cons h t ih => exact .cons h ih
theorem All2.length {xs ys : List Nat} (h : All2 R xs ys) : xs.length = ys.length := by
  induction h with
  | nil => rfl
  | cons h t ih => simp [ih]
theorem All2.get {xs ys : List Nat} (h : All2 R xs ys) : ∀ k : Nat, match xs[k]?, ys[k]? with | some x, some y => R x y | none, none => True | _, _ => False := by
  induction h with
  | nil => intro k; simp
  | cons h t ih =>
    intro k
    cases k with
    | zero => simpa using h
    | succ k => simpa using ih k
theorem All2.mem {xs ys : List Nat} (h : All2 R xs ys) (hc : ∀ i j i' j', R i j → R i' j' → (c1 i = c1 i' ↔ c2 j = c2 j')) {i j : Nat} (hij : R i j) : c1 i ∈ xs.map c1 ↔ c2 j ∈ ys.map c2 := by
  induction h with
  | nil => simp
  | cons h t ih => simp only [List.map_cons, List.mem_cons, ih, hc _ _ _ _ hij h]
theorem All2.pos {xs ys : List Nat} (h : All2 R xs ys) (hc : ∀ i j i' j', R i j → R i' j' → (c1 i = c1 i' ↔ c2 j = c2 j')) {i j : Nat} (hij : R i j) : posN c1 (c1 i) xs = posN c2 (c2 j) ys := by
  induction h with
  | nil => rfl
  | @cons x y xs ys h t ih =>
    unfold posN
    have := hc _ _ _ _ h hij
    by_cases e : c1 x = c1 i
    · rw [if_pos e, if_pos (this.1 e)]
    · rw [if_neg e, if_neg (fun e' => e (this.2 e')), ih]
theorem addN_beside (hc : ∀ i j i' j', R i j → R i' j' → (c1 i = c1 i' ↔ c2 j = c2 j')) {rs ss : List Nat} (h : All2 R rs ss) : ∀ {o1 o2 : List Nat}, All2 R o1 o2 → All2 R (addN c1 o1 rs) (addN c2 o2 ss) := by
  induction h with
  | nil => intro o1 o2 ho; exact ho
  | @cons x y xs ys h t ih =>
    intro o1 o2 ho
    unfold addN
    have := ho.mem hc h
    by_cases e : c1 x ∈ o1.map c1
    · rw [if_pos e, if_pos (this.1 e)]; exact ih ho
    · rw [if_neg e, if_neg (fun e' => e (this.2 e'))]; exact ih (ho.snoc h)
theorem reachN_beside (hc : ∀ i j i' j', R i j → R i' j' → (c1 i = c1 i' ↔ c2 j = c2 j')) (hr : ∀ i j, R i j → All2 R (r1 i) (r2 j)) : ∀ f k {o1 o2 : List Nat}, All2 R o1 o2 → All2 R (reachN c1 r1 f k o1) (reachN c2 r2 f k o2) := by
  intro f
  induction f with
  | zero => intro k o1 o2 h; exact h
  | succ f ih =>
    intro k o1 o2 h
    have hk := h.get k
    unfold reachN
    cases h1 : o1[k]? with
    | none =>
      cases h2 : o2[k]? with
      | none => exact h
      | some y => rw [h1, h2] at hk; exact absurd hk (by simp)
    | some x =>
      cases h2 : o2[k]? with
      | none => rw [h1, h2] at hk; exact absurd hk (by simp)
      | some y =>
        rw [h1, h2] at hk
        exact ih (k + 1) (addN_beside hc (hr x y hk) h)
end
/-- more fuel than there are numbers does no harm -/
theorem reachN_fuel {cls : Nat → Nat} {rf : Nat → List Nat} {n a : Nat} (hc : ∀ i, i < n → cls i < n) (hr : ∀ i, i < n → ∀ r ∈ rf i, r < n) : ∀ f f' k out, RInv n cls rf a k out → n < f + k → n < f' + k → reachN cls rf f k out = reachN cls rf f' k out := by
  intro f
  induction f with
  | zero =>
    intro f' k out I h h'
    have := I.len hc
    have := I.le
    omega
  | succ f ih =>
    intro f' k out I h h'
    cases hk : out[k]? with
    | none =>
      have h1 : out.length ≤ k := by simpa using hk
      rw [reachN_done h1, reachN_done h1]
    | some i =>
      cases f' with
      | zero =>
        have := I.len hc
        have := I.le
        have := (List.getElem?_eq_some_iff.1 hk).1
        omega
      | succ f' =>
        rw [reachN_go hk, reachN_go hk]
        exact ih f' (k + 1) _ (I.step hr hk) (by omega) (by omega)
end Go.Proofs.YtldnjnnhfeobdaaGreatDoor
/- Contracts: the rules on references, arrays, records, ranges and opaque types. Conditions: lengths below 2^20. -/
namespace Go.Proofs.YtldnjnnhfeobdaaGreatDoor
set_option linter.all false
set_option linter.unusedSimpArgs false
set_option linter.unusedVariables false
open Go.RowKit Go.Shelf

/-- nothing of a type is long -/
structure TySmall (t : Ty) : Prop where
  brand : t.brand.size ≤ 1048576
  opaq : t.opaq.size ≤ 1048576
  parts : t.parts.length ≤ 1048576
  part : ∀ p ∈ t.parts, p.name.size ≤ 1048576
  methods : t.methods.length ≤ 1048576
  method : ∀ m ∈ t.methods, m.name.size ≤ 1048576 ∧ m.proc.size ≤ 1048576 ∧ m.args.length ≤ 1048576 ∧ m.raises.length ≤ 1048576 ∧ ∀ r ∈ m.raises, r.size ≤ 1048576
  overs : t.overs.length ≤ 1048576
  over : ∀ o ∈ t.overs, o.name.size ≤ 1048576 ∧ o.proc.size ≤ 1048576

/-- v is a slice of n elements -/
def Len (v : Value) (n : Nat) : Prop := ∃ A cap, v = .slice A n cap
theorem Len.nil : Len (.slice none 0 0) 0 := ⟨_, _, rfl⟩
theorem Sl.toLen {α : Type} {E : Elt α} {w : World} {v : Value} {xs : List α} (h : Sl E w v xs) : Len v xs.length := h.len

/-- what a rule leaves: its answer, and the type without what it has looked at -/
def RulePost (w0 : World) (b : Nat) (r : Bool) (t : Ty) (e : Ending) (w' : World) : Prop :=
  e = .returned (.bool r) ∧ Ext w0 w' ∧ ∃ vp vm vo, TyBox w' b t vp vm vo ∧ Len vp t.parts.length ∧ Len vm t.methods.length ∧ Len vo t.overs.length
def Rule (f : Nat) (ok : Graph → Ty → Bool) (aft : Ty → Ty) : Prop :=
  ∀ (w0 w : World) (gv : Value) (g : Graph) (b : Nat) (t : Ty) (vp vm vo : Value), Ext w0 w → w0.heap.size ≤ b → Glob w0 → Sl tyE w0 gv g → g.length ≤ 1048576 → TyOf w0 t vp vm vo → TySmall t → TyBox w b t vp vm vo →
    Calls Tryz.prog f #[.agg #[gv], .pointer (some ⟨b, 0, none⟩)] w (RulePost w0 b (ok g t) (aft t))

theorem branded_rule {w0 w : World} {A : Option Addr} {n cap b : Nat} {t : Ty} {vp vm vo : Value} (hx : Ext w0 w) (hB : w0.heap.size ≤ b) (hn : n ≤ 1048576) (hp : TyOf w0 t vp vm vo) (hs : TySmall t) (hb : TyBox w b t vp vm vo) :
    Calls Tryz.prog 190 #[.agg #[.slice A n cap], .pointer (some ⟨b, 0, none⟩)] w fun e w' => e = .returned (.bool (brandedB n t)) ∧ Ext w0 w' ∧ TyBox w' b (noBrand t) vp vm vo :=
  (branded_any w A n cap b t vp vm vo hn hs.brand (hp.parts.mono hx) hs.parts hb).mono fun e w' ⟨h1, h2, h3⟩ =>
    ⟨h1, Below.grown hx h3 hx.size (fun k hk => by cases hk; exact hB), h2⟩

theorem TyBox.set {w0 w : World} {b : Nat} {c : Array Value} (hx : Ext w0 w) (hB : w0.heap.size ≤ b) (h : w.heap[b]? = some (.cells c 42 (0, 0))) (i : Nat) (v : Value) :
    Ext w0 (w.setCell ⟨b, i, none⟩ v) ∧ (w.setCell ⟨b, i, none⟩ v).heap[b]? = some (.cells (c.setIfInBounds i v) 42 (0, 0)) :=
  ⟨hx.setCell hB v, heap_set h i v⟩

/-! ### nothing -/
set_option maxRecDepth 100000 in
theorem nothing_rule : Rule 155 (fun _ _ => true) id := by
  intro w0 w gv g b t vp vm vo hx hB hG hg hgn hof hs hb
  obtain ⟨A, cap, rfl⟩ := hg.len
  have hp := hof.parts.toLen
  have hm := hof.methods.toLen
  have ho := hof.overs.toLen
  have Hx := Lib.hid hx
  have Hb := Lib.hid hb
  clear hx hb hG hg hof hs
  go_enter Tryz.func155, Tryz.ntmps155
  go_wp2_with fail
  go_ret
  exact ⟨rfl, Hx.out.alloc _, _, _, _, Hb.out.ext ((Ext.refl _).alloc _), hp, hm, ho⟩

/-! ### references and arrays -/
def heldB (g : Graph) (t : Ty) : Bool := brandedB g.length t && (decide (t.parts.length = 1) && strEq ((t.parts.head?.map (·.name)).getD ByteArray.empty) ByteArray.empty)
def noParts (t : Ty) : Ty := { noBrand t with parts := [] }
set_option maxRecDepth 100000 in
set_option maxHeartbeats 4000000 in
theorem held_rule : Rule 157 heldB noParts := by
  intro w0 w gv g b t vp vm vo hx hB hG hg hgn hof hs hb
  obtain ⟨A, cap, rfl⟩ := hg.len
  obtain ⟨A1, cap1, rfl, hcell⟩ := hof.parts.part
  have hm := hof.methods.toLen
  have ho := hof.overs.toLen
  have hlt := hb.lt
  have hbr := branded_rule (A := A) (cap := cap) (hx.alloc (.cells #[.slice A g.length cap] 77)) hB hgn hof hs (hb.ext ((Ext.refl _).alloc _))
  unfold heldB
  have hfin : ∀ w1 : World, Ext w0 w1 → TyBox w1 b (noBrand t) (.slice A1 t.parts.length cap1) vm vo → ∀ r, RulePost w0 b r (noParts t) (.returned (.bool r)) (w1.setCell ⟨b, 7, none⟩ (.slice none 0 0)) := fun w1 h1 h2 r =>
    ⟨rfl, (TyBox.set h1 hB h2 7 _).1, _, _, _, (TyBox.set h1 hB h2 7 _).2, Len.nil, hm, ho⟩
  have Hbr := Lib.hid hbr
  have Hfin := Lib.hid hfin
  have Hcell := Lib.hid hcell
  clear hx hb hG hg hof hs hbr hfin hcell
  cases h1 : brandedB g.length t
  · rw [h1] at Hbr
    clear h1
    go_enter Tryz.func157, Tryz.ntmps157
    go_wp2_with fail
    refine Hbr.out.mono ?_
    rintro e w1 ⟨rfl, hx1, hb1⟩
    have f7 := heap_frozen hb1 7
    have c7 := hb1.at.c7
    simp only [Nat.zero_add] at c7
    have Hx1 := Lib.hid hx1
    have Hb1 := Lib.hid hb1
    clear hx1 hb1
    go_wp2_with fail
    go_ret
    exact Hfin.out _ Hx1.out Hb1.out _
  · rw [h1] at Hbr
    clear h1
    by_cases hlen : t.parts.length = 1
    · have hl1 : ((t.parts.length : Int) == 1) = true := by simp [hlen]
      have hpos : 0 < t.parts.length := by omega
      obtain ⟨b1, off1, rfl, n0, n1⟩ := Hcell.out 0 hpos
      have hhead : (t.parts.head?.map (·.name)).getD ByteArray.empty = (t.parts[0]'hpos).name := by
        rw [List.head?_eq_getElem?, List.getElem?_eq_getElem hpos]; rfl
      rw [hhead, strEq_empty]
      have n0 : w0.cell? ⟨b1, off1, none⟩ = some (.string (t.parts[0]'hpos).name) := by simpa using n0
      have hpos' : (0 : Int) < (t.parts.length : Int) := by omega
      have N0 := Lib.hid n0
      have Hlen := Lib.hid hlen
      clear n0 n1 hlen hhead
      have hl2 : decide (t.parts.length = 1) = true := by rw [Hlen.out]; rfl
      rw [hl2]
      clear hl2
      cases hem : (t.parts[0]'hpos).name.toList.isEmpty
      all_goals
        go_enter Tryz.func157, Tryz.ntmps157
        go_wp2_with fail
        refine Hbr.out.mono ?_
        rintro e w1 ⟨rfl, hx1, hb1⟩
        have f7 := heap_frozen hb1 7
        have c7 := hb1.at.c7
        simp only [Nat.zero_add] at c7
        have n0 := hx1.cell N0.out
        have Hx1 := Lib.hid hx1
        have Hb1 := Lib.hid hb1
        clear hx1 hb1
        go_wp2_with fail
        go_ret
        exact Hfin.out _ Hx1.out Hb1.out _
    · have hl1 : ((t.parts.length : Int) == 1) = false := by simp; omega
      rw [decide_eq_false hlen]
      clear hlen
      go_enter Tryz.func157, Tryz.ntmps157
      go_wp2_with fail
      refine Hbr.out.mono ?_
      rintro e w1 ⟨rfl, hx1, hb1⟩
      have f7 := heap_frozen hb1 7
      have c7 := hb1.at.c7
      simp only [Nat.zero_add] at c7
      have Hx1 := Lib.hid hx1
      have Hb1 := Lib.hid hb1
      clear hx1 hb1
      go_wp2_with fail
      go_ret
      exact Hfin.out _ Hx1.out Hb1.out _
end Go.Proofs.YtldnjnnhfeobdaaGreatDoor
/- Contracts: the rules on records, ranges and opaque types. Conditions: lengths below 2^20. -/
namespace Go.Proofs.YtldnjnnhfeobdaaGreatDoor
set_option linter.all false
set_option linter.unusedSimpArgs false
set_option linter.unusedVariables false
open Go.RowKit Go.Shelf

def recordedB (g : Graph) (t : Ty) : Bool := brandedB g.length t && (decide (0 < t.parts.length) && differentB (t.parts.map (·.name)) 8)
theorem small_names {t : Ty} (hs : TySmall t) : ∀ s ∈ t.parts.map (·.name), s.size ≤ 1048576 := by
  intro s h
  obtain ⟨p, hp, rfl⟩ := List.mem_map.1 h
  exact hs.part p hp
set_option maxRecDepth 100000 in
set_option maxHeartbeats 4000000 in
theorem recorded_rule : Rule 158 recordedB noParts := by
  intro w0 w gv g b t vp vm vo hx hB hG hg hgn hof hs hb
  obtain ⟨A, cap, rfl⟩ := hg.len
  obtain ⟨A1, cap1, rfl⟩ := hof.parts.len
  have hm := hof.methods.toLen
  have ho := hof.overs.toLen
  have hlt := hb.lt
  have hbr := branded_rule (A := A) (cap := cap) (hx.alloc (.cells #[.slice A g.length cap] 77)) hB hgn hof hs (hb.ext ((Ext.refl _).alloc _))
  unfold recordedB
  have hfin : ∀ w1 : World, Ext w0 w1 → TyBox w1 b (noBrand t) (.slice A1 t.parts.length cap1) vm vo → ∀ r, RulePost w0 b r (noParts t) (.returned (.bool r)) (w1.setCell ⟨b, 7, none⟩ (.slice none 0 0)) := fun w1 h1 h2 r =>
    ⟨rfl, (TyBox.set h1 hB h2 7 _).1, _, _, _, (TyBox.set h1 hB h2 7 _).2, Len.nil, hm, ho⟩
  have htur := fun (w1 : World) (h1 : Ext w0 w1) => turned_part_str 193 #[] w1 _ t.parts Part.name (hof.parts.mono h1) hs.parts (map193 w1 t.parts)
  have hdif := fun (w1 : World) (v : Value) (h1 : Sl strE w1 v (t.parts.map Part.name)) => different_any w1 v (t.parts.map Part.name) 8 h1 (by simpa using hs.parts) (small_names hs)
  have Hbr := Lib.hid hbr
  have Hfin := Lib.hid hfin
  have Htur := Lib.hid htur
  have Hdif := Lib.hid hdif
  have hpn := hs.parts
  clear hx hb hG hg hof hs hbr hfin htur hdif
  change Calls _ _ _ _ (RulePost w0 b (_ && (_ && differentB (t.parts.map Part.name) 8)) _)
  generalize differentB (t.parts.map Part.name) 8 = r at Hdif ⊢
  cases h1 : brandedB g.length t
  · rw [h1] at Hbr
    clear h1
    go_enter Tryz.func158, Tryz.ntmps158
    go_wp2_with fail
    refine Hbr.out.mono ?_
    rintro e w1 ⟨rfl, hx1, hb1⟩
    have f7 := heap_frozen hb1 7
    have c7 := hb1.at.c7
    simp only [Nat.zero_add] at c7
    have Hx1 := Lib.hid hx1
    have Hb1 := Lib.hid hb1
    clear hx1 hb1
    go_wp2_with fail
    go_ret
    exact Hfin.out _ Hx1.out Hb1.out _
  · rw [h1] at Hbr
    clear h1
    by_cases hlen : 0 < t.parts.length
    · rw [decide_eq_true hlen]
      go_enter Tryz.func158, Tryz.ntmps158
      go_wp2_with fail
      refine Hbr.out.mono ?_
      rintro e w1 ⟨rfl, hx1, hb1⟩
      have c7 := hb1.at.c7
      simp only [Nat.zero_add] at c7
      have Hx1 := Lib.hid hx1
      have Hb1 := Lib.hid hb1
      clear hx1 hb1
      go_wp2_with fail
      refine (Htur.out _ Hx1.out).mono ?_
      rintro e w2 ⟨v2, rfl, hs2, hx2⟩
      have hsl := hs2.any
      obtain ⟨A2, cap2, e2⟩ := hsl.len
      rw [List.length_map] at e2
      subst e2
      have Hx2 := Lib.hid (Hx1.out.trans hx2)
      have Hb2 := Lib.hid (Hb1.out.ext hx2)
      have Hsl := Lib.hid hsl
      clear hs2 hsl hx2 c7 Hx1 Hb1
      go_wp2_with fail
      refine (Hdif.out _ _ Hsl.out).mono ?_
      rintro e w3 ⟨rfl, hx3⟩
      have Hx3 := Lib.hid (Hx2.out.trans hx3)
      have Hb3 := Lib.hid (Hb2.out.ext hx3)
      have f7 := heap_frozen Hb3.out 7
      have c7 := Hb3.out.at.c7
      simp only [Nat.zero_add] at c7
      clear hx3 Hx2 Hb2 Hsl
      go_wp2_with fail
      go_ret
      exact Hfin.out _ Hx3.out Hb3.out _
    · rw [decide_eq_false hlen]
      go_enter Tryz.func158, Tryz.ntmps158
      go_wp2_with fail
      refine Hbr.out.mono ?_
      rintro e w1 ⟨rfl, hx1, hb1⟩
      have f7 := heap_frozen hb1 7
      have c7 := hb1.at.c7
      simp only [Nat.zero_add] at c7
      have Hx1 := Lib.hid hx1
      have Hb1 := Lib.hid hb1
      clear hx1 hb1
      go_wp2_with fail
      go_ret
      exact Hfin.out _ Hx1.out Hb1.out _

/-! ### ranges -/
def rangedB (_ : Graph) (t : Ty) : Bool := inB t.low (-1000000000) t.high && decide (t.high ≤ 1000000000)
def noRange (t : Ty) : Ty := { t with low := 0, high := 0 }
set_option maxRecDepth 100000 in
set_option maxHeartbeats 4000000 in
theorem ranged_rule : Rule 156 rangedB noRange := by
  intro w0 w gv g b t vp vm vo hx hB hG hg hgn hof hs hb
  obtain ⟨A, cap, rfl⟩ := hg.len
  have hp := hof.parts.toLen
  have hm := hof.methods.toLen
  have ho := hof.overs.toLen
  have hlt := hb.lt
  unfold rangedB
  have hfin : ∀ w1 : World, Ext w0 w1 → TyBox w1 b t vp vm vo → ∀ r, RulePost w0 b r (noRange t) (.returned (.bool r)) ((w1.setCell ⟨b, 1, none⟩ (.int .i64 0)).setCell ⟨b, 2, none⟩ (.int .i64 0)) := fun w1 h1 h2 r =>
    ⟨rfl, (TyBox.set (TyBox.set h1 hB h2 1 _).1 hB (TyBox.set h1 hB h2 1 _).2 2 _).1, _, _, _, (TyBox.set (TyBox.set h1 hB h2 1 _).1 hB (TyBox.set h1 hB h2 1 _).2 2 _).2, hp, hm, ho⟩
  have Hfin := Lib.hid hfin
  have Hx := Lib.hid hx
  have Hb := Lib.hid hb
  have c1 := hb.at.c1
  have c2 := hb.at.c2
  have f1 := heap_frozen hb 1
  have f2 := heap_frozen hb 2
  simp only [Nat.zero_add] at c1 c2
  clear hx hb hG hg hof hs hfin
  cases h1 : inB t.low (-1000000000) t.high
  · have H1 := Lib.hid h1
    clear h1
    go_enter Tryz.func156, Tryz.ntmps156
    go_wp2_with fail
    go_quiet ((go_at_call 59; exact Calls.quiet_of_same ((in_any t.low (-1000000000) t.high _).mono fun e w' ⟨h, h'⟩ => ⟨by rw [h, H1.out], h'.symm⟩)))
    go_wp2_with fail
    go_ret
    exact Hfin.out _ ((Hx.out.alloc _).drewN _) (Hb.out.ext (((Ext.refl _).alloc _).drewN _)) _
  · have H1 := Lib.hid h1
    clear h1
    by_cases h2 : t.high ≤ 1000000000
    · rw [decide_eq_true h2]
      have h2' : decide (t.high ≤ 1000000000) = true := decide_eq_true h2
      go_enter Tryz.func156, Tryz.ntmps156
      go_wp2_with fail
      go_quiet ((go_at_call 59; exact Calls.quiet_of_same ((in_any t.low (-1000000000) t.high _).mono fun e w' ⟨h, h'⟩ => ⟨by rw [h, H1.out], h'.symm⟩)))
      go_wp2_with fail
      go_ret
      exact Hfin.out _ ((Hx.out.alloc _).drewN _) (Hb.out.ext (((Ext.refl _).alloc _).drewN _)) _
    · rw [decide_eq_false h2]
      have h2' : decide (t.high ≤ 1000000000) = false := decide_eq_false h2
      go_enter Tryz.func156, Tryz.ntmps156
      go_wp2_with fail
      go_quiet ((go_at_call 59; exact Calls.quiet_of_same ((in_any t.low (-1000000000) t.high _).mono fun e w' ⟨h, h'⟩ => ⟨by rw [h, H1.out], h'.symm⟩)))
      go_wp2_with fail
      go_ret
      exact Hfin.out _ ((Hx.out.alloc _).drewN _) (Hb.out.ext (((Ext.refl _).alloc _).drewN _)) _
end Go.Proofs.YtldnjnnhfeobdaaGreatDoor
/- Contracts: the rule on opaque types. Conditions: lengths below 2^20. -/
namespace Go.Proofs.YtldnjnnhfeobdaaGreatDoor
set_option linter.all false
set_option linter.unusedSimpArgs false
set_option linter.unusedVariables false
open Go.RowKit Go.Shelf

def kindsOpaque : List Int := [12, 6, 7, 8, 13, 4]
def kindsObject : List Int := [12, 6, 7, 8, 13]
theorem lit_bytes (W : World) (l : List Int) (n : Nat) (hn : l.length = n) : Sl byteE (W.alloc (.cells (l.map fun x => Value.int .u8 x).toArray 5)) (.slice (some ⟨W.heap.size, 0, none⟩) n n) l := by
  subst hn
  refine ⟨_, _, rfl, fun i x hi => ⟨_, _, _, rfl, ⟨trivial, Nat.le_refl _⟩, rfl, fun j u hj => ?_⟩⟩
  have hlt := (List.getElem?_eq_some_iff.1 hi).1
  cases j with
  | zero =>
    simp at hj
    subst hj
    simp only [byteE, Nat.mul_one, Nat.add_zero, Nat.zero_add]
    rw [World.cell?_alloc_new]
    simp [hi]
  | succ j => simp at hj

def opaqueB (g : Graph) (t : Ty) : Bool := isSymbolB t.opaq && overB g t.super kindsOpaque
def noOpaque (t : Ty) : Ty := { t with opaq := ByteArray.empty, super := 0 }
set_option maxRecDepth 100000 in
set_option maxHeartbeats 4000000 in
theorem opaque_rule : Rule 160 opaqueB noOpaque := by
  intro w0 w gv g b t vp vm vo hx hB hG hg hgn hof hs hb
  obtain ⟨A, cap, rfl⟩ := hg.len
  have hp := hof.parts.toLen
  have hm := hof.methods.toLen
  have ho := hof.overs.toLen
  have hlt := hb.lt
  unfold opaqueB
  have hfin : ∀ w1 : World, Ext w0 w1 → TyBox w1 b t vp vm vo → ∀ r, RulePost w0 b r (noOpaque t) (.returned (.bool r)) ((w1.setCell ⟨b, 5, none⟩ (.string ByteArray.empty)).setCell ⟨b, 6, none⟩ (.int .i64 0)) := fun w1 h1 h2 r =>
    ⟨rfl, (TyBox.set (TyBox.set h1 hB h2 5 _).1 hB (TyBox.set h1 hB h2 5 _).2 6 _).1, _, _, _, (TyBox.set (TyBox.set h1 hB h2 5 _).1 hB (TyBox.set h1 hB h2 5 _).2 6 _).2, hp, hm, ho⟩
  have hsy := fun (w1 : World) (h1 : Ext w0 w1) => isSymbol_any t.opaq w1 hs.opaq (hG.mono h1)
  have hov := fun (w1 : World) (v : Value) (h1 : Ext w0 w1) (h2 : Sl byteE w1 v kindsOpaque) => over_any w1 _ v g t.super kindsOpaque (hg.mono h1) h2 hgn (by decide)
  generalize overB g t.super kindsOpaque = r at hov ⊢
  have Hfin := Lib.hid hfin
  have Hsy := Lib.hid hsy
  have Hov := Lib.hid hov
  have Hx := Lib.hid hx
  have Hb := Lib.hid hb
  have c5 := hb.at.c5
  have c6 := hb.at.c6
  have f5 := heap_frozen hb 5
  have f6 := heap_frozen hb 6
  simp only [Nat.zero_add] at c5 c6
  clear hx hb hG hg hof hs hfin hsy hov
  cases h1 : isSymbolB t.opaq
  · rw [h1] at Hsy
    clear h1 Hov
    go_enter Tryz.func160, Tryz.ntmps160
    go_wp2_with fail
    refine wp_region_X (by kernel_rfl) (by kernel_rfl) (fun w' => Ext w w') (((Ext.refl _).alloc _).drew) ?_
    repeat (first
      | (refine X_skip rfl ?_; simp only [Act.put, List.setIfInBounds_toArray, List.set_cons_zero, List.set_cons_succ])
      | (refine X_want rfl ?_
         first
           | (refine X_val (v := ?_) (fun w1 hC => ?_) ?_
              rotate_left
              · have c5' := hC.cell c5
                go_simp
                exact rfl
              simp only [Act.put, List.setIfInBounds_toArray, List.set_cons_zero, List.set_cons_succ])
           | (refine X_call (v := .bool false) (f := 29) (args := #[.string t.opaq]) (fun w1 => ?_) (fun w1 hC => (Hsy.out _ (Hx.out.trans hC)).mono fun e w2 ⟨he, hx⟩ => ⟨he, hC.trans hx⟩) ?_
              · go_simp
              simp only [Act.put, List.setIfInBounds_toArray, List.set_cons_zero, List.set_cons_succ])))
    refine wpQuiet_nil ?_
    intro w1 hx1
    have c5' := hx1.cell c5
    have c6' := hx1.cell c6
    have f5' := heap_frozen (Hb.out.ext hx1) 5
    have f6' := heap_frozen (Hb.out.ext hx1) 6
    clear c5 c6 f5 f6
    go_wp2_with fail
    go_ret
    exact Hfin.out _ (Hx.out.trans hx1) (Hb.out.ext hx1) _
  · rw [h1] at Hsy
    clear h1
    go_enter Tryz.func160, Tryz.ntmps160
    go_wp2_with fail
    go_region_with (first | (go_at_call 29; refine (Hsy.out _ ((Hx.out.alloc _).drew)).mono ?_; rintro e w1 ⟨rfl, hx1⟩; have hx2 := ((Ext.refl w).alloc (.cells #[.slice A g.length cap] 77)).drew.trans hx1; have c5' := hx2.cell c5; have c6' := hx2.cell c6; have hg' := hx1.cell (v := .slice A g.length cap) (p := ⟨w.heap.size, 0, none⟩) (by simp); have hb1 := cell_lt c6'; have hb2 := cell_lt hg') | (go_at_call 196; refine (Hov.out _ _ ((Hx.out.trans hx2).alloc _) (lit_bytes w1 kindsOpaque 6 rfl)).mono ?_; rintro e w3 ⟨rfl, hx3⟩))
    all_goals
      have hx4 := (hx2.alloc _).trans hx3
      have c5'' := hx4.cell c5
      have c6'' := hx4.cell c6
      have f5' := heap_frozen (Hb.out.ext hx4) 5
      have f6' := heap_frozen (Hb.out.ext hx4) 6
      clear c5 c6 f5 f6 c5' c6' hg' hx1 hx2 hx3
      go_wp2_with fail
      go_ret
      exact Hfin.out _ (Hx.out.trans hx4) (Hb.out.ext hx4) _
end Go.Proofs.YtldnjnnhfeobdaaGreatDoor
/- Contract: signatures. Conditions: lengths below 2^20. -/
namespace Go.Proofs.YtldnjnnhfeobdaaGreatDoor
set_option linter.all false
set_option linter.unusedSimpArgs false
set_option linter.unusedVariables false
open Go.RowKit Go.Shelf

def alerted : ByteArray := ⟨#[65, 76, 69, 82, 84, 69, 68]⟩
def lessB (a b : ByteArray) : Bool := Op.bytesLess a.toList b.toList
def raiseOk (prev : Option ByteArray) (r : ByteArray) : Bool := (strEq r alerted || isSymbolB r) && (match prev with | none => true | some p => lessB p r)
def raisesFrom (prev : Option ByteArray) : List ByteArray → Bool
  | [] => true
  | r :: l => raiseOk prev r && raisesFrom (some r) l
def prevAt (l : List ByteArray) (j : Nat) : Option ByteArray := if j = 0 then none else l[j - 1]?
theorem raises_step (l : List ByteArray) (j : Nat) (h : j < l.length) : raisesFrom (prevAt l j) (l.drop j) = (raiseOk (prevAt l j) l[j] && raisesFrom (prevAt l (j + 1)) (l.drop (j + 1))) := by
  rw [drop_cons' l j h]
  simp only [raisesFrom]
  rw [show prevAt l (j + 1) = some l[j] by simp [prevAt, List.getElem?_eq_getElem h]]

theorem alerted_toList : alerted.toList = [65, 76, 69, 82, 84, 69, 68] := by rw [ByteArray.toList_eq]; rfl
theorem prevAt_zero (l : List ByteArray) : prevAt l 0 = none := rfl
theorem prevAt_pos (l : List ByteArray) (j : Nat) (h : j + 1 < l.length) : prevAt l (j + 1) = some (l[j]'(by omega)) := by
  simp [prevAt, List.getElem?_eq_getElem (show j < l.length by omega)]
def sigB (n : Nat) (m : Method) : Bool :=
  (decide (m.args.length ≤ 6) && (decide (m.raises.length ≤ 6) && ((decide (m.result = -1) || hasB n m.result) && !(m.args.any fun i => !hasB n i)))) && raisesFrom none m.raises

set_option maxRecDepth 100000 in
theorem signed1 (w : World) (B : Nat) (A : Option Addr) (n cap : Nat) (i : Int) (hn : n ≤ 1048576) (hc : w.cell? ⟨B, 0, none⟩ = some (.slice A n cap)) :
    Calls Tryz.prog 243 #[.int .i64 i, .pointer (some ⟨B, 0, none⟩)] w (Ret w (.bool (!hasB n i))) := by
  have hlt := cell_lt hc
  have hh := fun w => has_any w A n cap i hn
  generalize hasB n i = r at hh ⊢
  have Hh := Lib.hid hh
  clear hh
  go_enter Tryz.func243, Tryz.ntmps243
  go_wp2_with fail
  refine (Hh.out _).mono ?_
  rintro e w1 ⟨rfl, hx1⟩
  go_wp2_with fail
  go_ret
  exact ⟨rfl, hx1⟩
theorem pred243 (w : World) (B : Nat) (A : Option Addr) (n cap : Nat) (xs : List Int) (hn : n ≤ 1048576) (hc : w.cell? ⟨B, 0, none⟩ = some (.slice A n cap)) :
    Pred intE w 243 #[.pointer (some ⟨B, 0, none⟩)] xs (fun i => !hasB n i) :=
  ⟨enters_of Tryz.func243 (by kernel_rfl) rfl, by
    rintro x _ w' A' hx ⟨cs, rfl, rfl⟩
    exact signed1 w' B A n cap x hn (hx.cell hc)⟩

/-- the signature's box, and the graph's -/
def sigV (m : Method) (va vr : Value) : Value := .agg #[va, .int .i64 m.result, vr]

set_option maxRecDepth 100000 in
set_option maxHeartbeats 8000000 in
/-- the loop over what is raised, from the frame that the first part leaves -/
theorem signed_any (w : World) (A : Option Addr) (n cap : Nat) (m : Method) (va vr : Value) (hn : n ≤ 1048576) (hG : Glob w) (ha : Sl intE w va m.args) (hr : Sl strE w vr m.raises)
    (hal : m.args.length ≤ 1048576) (hrl : m.raises.length ≤ 1048576) (hrs : ∀ r ∈ m.raises, r.size ≤ 1048576) :
    Calls Tryz.prog 226 #[.agg #[.slice A n cap], .agg #[va, .int .i64 m.result, vr]] w (Ret w (.bool (sigB n m))) := by
  obtain ⟨Aa, ca, rfl⟩ := ha.len
  obtain ⟨Ar, cr, rfl, hcell⟩ := hr.str
  unfold sigB
  have hh := fun w => has_any w A n cap m.result hn
  have hcon := fun (w' : World) (hx : Ext w w') (hc : w'.cell? ⟨w.heap.size, 0, none⟩ = some (.slice A n cap)) =>
    containsFunc_int 243 #[.pointer (some ⟨w.heap.size, 0, none⟩)] w' _ _ _ (ha.mono hx) hal (pred243 w' _ A n cap m.args hn hc)
  generalize (m.args.any fun i => !hasB n i) = r at hcon ⊢
  generalize hasB n m.result = hb at hh ⊢
  have hsy := fun (j : Nat) (hj : j < m.raises.length) (w' : World) (hx : Ext w w') => isSymbol_any m.raises[j] w' (hrs _ (List.getElem_mem hj)) (hG.mono hx)
  have Hcell := Lib.hid hcell
  have Hcon := Lib.hid hcon
  have Hh := Lib.hid hh
  have Hsy := Lib.hid hsy
  clear hcell hcon hh hsy ha hr hrs hG
  obtain ⟨ok, hok⟩ : ∃ ok, (decide (m.args.length ≤ 6) && (decide (m.raises.length ≤ 6) && ((decide (m.result = -1) || hb) && !r))) = ok := ⟨_, rfl⟩
  rw [hok]
  have Hok := Lib.hid hok
  clear hok
  go_enter Tryz.func226, Tryz.ntmps226
  go_upto_region 1 with fail
  go_cut [5] (fun s5 wx => s5 = .bool ok ∧ Ext w wx ∧ wx.cell? ⟨w.heap.size + 1, 2, none⟩ = some (.slice Ar m.raises.length cr))
  case first =>
    have h0 : Ext w ((w.alloc (.cells #[.slice A n cap] 77)).alloc (.cells #[.slice Aa m.args.length ca, .int .i64 m.result, .slice Ar m.raises.length cr] 72)) := ((Ext.refl _).alloc _).alloc _
    by_cases c1 : m.args.length ≤ 6
    · by_cases c2 : m.raises.length ≤ 6
      · by_cases c3 : m.result = -1
        · have c3' : (m.result == -1) = true := by simp [c3]
          have C3 := Lib.hid c3
          clear c3
          have Hok2 : Hid ((!r) = ok) := by rw [← Hok.out, decide_eq_true c1, decide_eq_true c2, decide_eq_true C3.out]; rfl
          go_wp2_with fail
          refine (Hcon.out _ h0 (by simp)).mono ?_
          rintro e w1 ⟨rfl, hx1⟩
          have c5 := hx1.cell (v := .slice Ar m.raises.length cr) (p := ⟨w.heap.size + 1, 2, none⟩) (by simp)
          go_wp2_with fail
          go_meet
          exact ⟨by rw [← Hok2.out], h0.trans hx1, c5⟩
        · have c3' : (m.result == -1) = false := by simp [c3]
          have C3 := Lib.hid c3
          clear c3
          have Hok2 : Hid ((hb && !r) = ok) := by rw [← Hok.out, decide_eq_true c1, decide_eq_true c2, decide_eq_false C3.out]; rfl
          cases hb
          · go_wp2_with fail
            refine (Hh.out _).mono ?_
            rintro e w1 ⟨rfl, hx1⟩
            have c5 := hx1.cell (v := .slice Ar m.raises.length cr) (p := ⟨w.heap.size + 1, 2, none⟩) (by simp)
            go_wp2_with fail
            go_meet
            exact ⟨by rw [← Hok2.out]; rfl, h0.trans hx1, c5⟩
          · go_wp2_with fail
            refine (Hh.out _).mono ?_
            rintro e w1 ⟨rfl, hx1⟩
            have c5 := hx1.cell (v := .slice Ar m.raises.length cr) (p := ⟨w.heap.size + 1, 2, none⟩) (by simp)
            have c6 := hx1.cell (v := .slice Aa m.args.length ca) (p := ⟨w.heap.size + 1, 0, none⟩) (by simp)
            have c7 := hx1.cell (v := .slice A n cap) (p := ⟨w.heap.size, 0, none⟩) (by simp)
            go_wp2_with fail
            refine (Hcon.out _ (h0.trans hx1) c7).mono ?_
            rintro e w2 ⟨rfl, hx2⟩
            have c5' := hx2.cell c5
            clear c5 c6 c7
            go_wp2_with fail
            go_meet
            exact ⟨by rw [← Hok2.out]; rfl, (h0.trans hx1).trans hx2, c5'⟩
      · have Hok2 : Hid (false = ok) := by rw [← Hok.out, decide_eq_true c1, decide_eq_false c2]; rfl
        go_wp2_with fail
        go_meet
        exact ⟨by rw [← Hok2.out], h0, by simp⟩
    · have Hok2 : Hid (false = ok) := by rw [← Hok.out, decide_eq_false c1]; rfl
      go_wp2_with fail
      go_meet
      exact ⟨by rw [← Hok2.out], h0, by simp⟩
  case rest =>
    obtain ⟨rfl, hx0, h2⟩ := hcut
    clear Hok Hcon Hh
    go_wp2_with fail
    go_loopw [5, 39] (fun o k wr => ∃ (j : Nat) (okj : Bool), j ≤ m.raises.length ∧ o = .bool okj ∧ k = .int .i64 j ∧ Ext w wr ∧ wr.cell? ⟨w.heap.size + 1, 2, none⟩ = some (.slice Ar m.raises.length cr) ∧
      Hid ((ok && raisesFrom none m.raises) = (okj && raisesFrom (prevAt m.raises j) (m.raises.drop j)))) (fun _ k _ => m.raises.length - (intOf k).toNat)
    case atStart => exact ⟨0, ok, by omega, rfl, by simp, hx0, h2, by simp [Hid, prevAt]⟩
    case round =>
      obtain ⟨j, okj, hj, rfl, rfl, hx, h3, hinv⟩ := hrel
      by_cases hlt : j < m.raises.length
      · obtain ⟨b, off, rfl, h0⟩ := Hcell.out j hlt
        have h0 := hx.cell h0
        have Hinv : Hid ((ok && raisesFrom none m.raises) = (okj && (raiseOk (prevAt m.raises j) m.raises[j] && raisesFrom (prevAt m.raises (j + 1)) (m.raises.drop (j + 1))))) := by
          rw [hinv.out, raises_step _ _ hlt]; rfl
        clear hinv
        cases okj
        · go_wp2_with fail
          go_roundw
          case rel => exact ⟨j + 1, false, by omega, rfl, by go_num, hx, h3, by rw [Hinv.out]; rfl⟩
          case measure => simp [intOf]; omega
        · have Hal := Lib.hid (show (m.raises[j].toList == [65, 76, 69, 82, 84, 69, 68]) = strEq m.raises[j] alerted by rw [← alerted_toList]; rfl)
          have hprev : ∃ pl : Bool, Hid (raiseOk (prevAt m.raises j) m.raises[j] = ((strEq m.raises[j] alerted || isSymbolB m.raises[j]) && pl)) ∧
              (j = 0 ∧ pl = true ∨ ∃ i, j = i + 1 ∧ ∃ (hi : i < m.raises.length), Op.bytesLess m.raises[i].toList m.raises[j].toList = pl) := by
            cases j with
            | zero => exact ⟨true, rfl, .inl ⟨rfl, rfl⟩⟩
            | succ i => exact ⟨lessB m.raises[i] m.raises[i + 1], by simp only [Hid, raiseOk, prevAt_pos _ _ hlt], .inr ⟨i, rfl, by omega, rfl⟩⟩
          obtain ⟨pl, Hro, hpl⟩ := hprev
          have Hinv2 : Hid ((ok && raisesFrom none m.raises) = (((strEq m.raises[j] alerted || isSymbolB m.raises[j]) && pl) && raisesFrom (prevAt m.raises (j + 1)) (m.raises.drop (j + 1)))) := by
            rw [Hinv.out, Hro.out, Bool.true_and]; rfl
          have HS := Lib.hid (Hsy.out j hlt wr hx)
          generalize strEq m.raises[j] alerted = al at Hal Hinv2
          generalize isSymbolB m.raises[j] = sy at HS Hinv2
          have hal := Hal.out
          clear Hinv Hro Hal
          cases al
          · cases sy
            · go_wp2_with fail
              refine HS.out.mono ?_
              rintro e w1 ⟨rfl, hx1⟩
              have h3' := hx1.cell h3
              go_wp2_with fail
              go_roundw
              case rel => exact ⟨j + 1, false, by omega, rfl, by go_num, hx.trans hx1, h3', by rw [Hinv2.out]; rfl⟩
              case measure => simp [intOf]; omega
            · rcases hpl with ⟨rfl, rfl⟩ | ⟨i, rfl, hi, hless⟩
              · simp only [Nat.add_zero] at h0
                go_wp2_with fail
                refine HS.out.mono ?_
                rintro e w1 ⟨rfl, hx1⟩
                have h3' := hx1.cell h3
                go_wp2_with fail
                go_roundw
                case rel => exact ⟨1, true, by omega, rfl, by go_num, hx.trans hx1, h3', by rw [Hinv2.out]; rfl⟩
                case measure => simp [intOf]; omega
              · obtain ⟨b', off', hb', h0'⟩ := Hcell.out i hi
                cases hb'
                have h0' := hx.cell h0'
                have j0 : (((i + 1 : Nat) : Int) == 0) = false := by simp; omega
                go_wp2_with fail
                refine HS.out.mono ?_
                rintro e w1 ⟨rfl, hx1⟩
                have h3' := hx1.cell h3
                have h0'' := hx1.cell h0'
                go_wp2_with fail
                go_roundw
                case rel => exact ⟨i + 1 + 1, pl, by omega, by first | rfl | rw [hless], by go_num, hx.trans hx1, h3', by rw [Hinv2.out]; rfl⟩
                case measure => simp [intOf]; omega
          · rcases hpl with ⟨rfl, rfl⟩ | ⟨i, rfl, hi, hless⟩
            · simp only [Nat.add_zero] at h0
              go_wp2_with fail
              go_roundw
              case rel => exact ⟨1, true, by omega, rfl, by go_num, hx, h3, by rw [Hinv2.out]; rfl⟩
              case measure => simp [intOf]; omega
            · obtain ⟨b', off', hb', h0'⟩ := Hcell.out i hi
              cases hb'
              have h0' := hx.cell h0'
              have j0 : (((i + 1 : Nat) : Int) == 0) = false := by simp; omega
              go_wp2_with fail
              go_roundw
              case rel => exact ⟨i + 1 + 1, pl, by omega, by first | rfl | rw [hless], by go_num, hx, h3, by rw [Hinv2.out]; rfl⟩
              case measure => simp [intOf]; omega
      · go_wp2_with fail
        go_ret
        refine ⟨?_, hx⟩
        rw [hinv.out, List.drop_of_length_le (by omega)]
        cases okj <;> rfl
end Go.Proofs.YtldnjnnhfeobdaaGreatDoor
