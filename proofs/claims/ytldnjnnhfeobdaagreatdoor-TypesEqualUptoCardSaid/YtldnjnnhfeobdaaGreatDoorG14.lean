/- Parts of the proof, joined: A map of the call's own, ranged over: what comes out is an entry that has not come yet, whichever. No condition; Types that are the same: no way tells them, their texts are equal; others: the way that is found tells them, and it is a least one. No program; Pairs that show that types are the same; graphs that are equal. No program. No condition; Contract: CheckEqual. Conditions: a tidy graph, at most 2^20 pairs; Contract of the reference: Equal. Conditions: lengths below 2^20; Contract of the reference: CheckEqual. Conditions: lengths below 2^20; Contract: CheckEqual. Conditions: a tidy graph, at most 2^20 pairs; The law TypesEqual returns true. Conditions: a tidy graph, at most 2^20 pairs; Lists of pairs that a law of the seat is given; five parameters. No condition. -/
import Derived.Maps.RangeWalk
import Derived.Test.YtldnjnnhfeobdaaGreatDoorG01
import Derived.Test.YtldnjnnhfeobdaaGreatDoorG09
import Derived.Test.YtldnjnnhfeobdaaGreatDoorG06
import Derived.Test.YtldnjnnhfeobdaaGreatDoorG05
import Derived.Test.YtldnjnnhfeobdaaGreatDoorG07
import Derived.Test.YtldnjnnhfeobdaaGreatDoorG10
import Derived.Test.YtldnjnnhfeobdaaGreatDoorG08
import Derived.Test.YtldnjnnhfeobdaaGreatDoorG04
set_option linter.all false
set_option linter.unusedSimpArgs false
set_option linter.unusedVariables false
namespace Go.Proofs.YtldnjnnhfeobdaaGreatDoor
open Go.RowKit Go.Shelf
/-- what MapF says of the entries -/
structure Entr {P : Program} {kt : TypeId} {κ : Type} (K : KeyEnc P kt κ) (es : Array MapEntry) (clock : Nat) (f : κ → Option Value) : Prop where
 has : ∀ e ∈ es.toList, ∃ k, e.key = K.enc k ∧ f k = some e.val
 all : ∀ k v, f k = some v → ∃ e ∈ es.toList, e.key = K.enc k
 one : ∀ i j (hi : i < es.size) (hj : j < es.size), es[i].key = es[j].key → i = j
 born : ∀ e ∈ es.toList, e.born < clock
 nodup : (es.toList.map (·.born)).Nodup
/-- block b is a map whose entries are the pairs of f, each with a stamp of its own -/
def MapS {P : Program} {kt : TypeId} {κ : Type} (K : KeyEnc P kt κ) (w : World) (b : Nat) (f : κ → Option Value) : Prop :=
 ∃ es clock, w.heap[b]? = some (.map es clock) ∧ Entr K es clock f
section
variable {P : Program} {kt : TypeId} {κ : Type} {K : KeyEnc P kt κ} {w : World} {b : Nat} {f : κ → Option Value}
theorem MapS.mapF (h : MapS K w b f) : MapF K w b f := by
 obtain ⟨es, clock, hb, h⟩ := h
 exact ⟨es, clock, hb, h.has, h.all, h.one⟩
theorem MapS.made (K : KeyEnc P kt κ) (w : World) : MapS K (w.alloc (.map #[] 0)) w.heap.size (fun _ => none) :=
 ⟨#[], 0, (MapKept.heap_alloc w _).1, ⟨by simp, by simp, by simp, by simp, by simp⟩⟩
theorem MapS.ext {w' : World} (h : MapS K w b f) (hx : Ext w w') : MapS K w' b f := by
 obtain ⟨es, clock, hb, h⟩ := h
 exact ⟨es, clock, hx.heap hb, h⟩
theorem MapS.kept {w' : World} (h : MapS K w b f) (hb' : w'.heap[b]? = w.heap[b]?) : MapS K w' b f := by
 obtain ⟨es, clock, hb, h⟩ := h
 exact ⟨es, clock, hb'.trans hb, h⟩
theorem MapS.lt (h : MapS K w b f) : b < w.heap.size := h.mapF.lt
theorem MapS.update [DecidableEq κ] (h : MapS K w b f) {t e : TypeId} (ht : P.underlying t = some (.map kt e)) (k : κ) (v : Value) :
  ∃ w', (Instr.mapUpdate t (.map (some b)) (K.enc k) v).run P w = .ok () w' ∧ MapS K w' b (put f k v) ∧ w.grownBy w' (some b) := by
 obtain ⟨es, clock, hb, h1, h2, hd, hbn, hnd⟩ := h
 obtain ⟨r, hr, hm⟩ := K.find w k es.toList (fun e he => let ⟨k', h, _⟩ := h1 e he; ⟨k', h⟩)
 have hc := K.check false w k
 have hlt := (Array.getElem?_eq_some_iff.1 hb).1
 have hset : ∀ o, ({ w with heap := w.heap.setIfInBounds b o } : World).heap[b]? = some o := fun o => by simp [hlt]
 have hgrow : ∀ o, w.grownBy ({ w with heap := w.heap.setIfInBounds b o } : World) (some b) := fun o =>
  ⟨rfl, rfl, rfl, by simp, fun i _ hi => by
   have : b ≠ i := fun e => hi (by rw [e])
   simp [Array.getElem?_setIfInBounds, this]⟩
 cases r with
 | none =>
  refine ⟨_, ?_, ⟨es.push { key := K.enc k, val := v, born := clock }, clock + 1, hset _, ?_, ?_, ?_, ?_, ?_⟩, hgrow _⟩
  ·simp [Instr.mapUpdate, run_underlying ht, getObj, setObj, Sem.run, hb, hc, hr]
  ·intro e he
   simp only [Array.toList_push, List.mem_append, List.mem_singleton] at he
   rcases he with he | rfl
   ·obtain ⟨k', h3, h4⟩ := h1 e he
    refine ⟨k', h3, ?_⟩
    have : k' ≠ k := fun e' => hm e he (by rw [h3, e'])
    simp [put, this, h4]
   ·exact ⟨k, rfl, by simp [put]⟩
  ·intro k' v' hv
   by_cases e : k' = k
   ·subst e
    exact ⟨{ key := K.enc k', val := v, born := clock }, by simp, rfl⟩
   ·simp only [put, e, if_false] at hv
    obtain ⟨e', he', hk'⟩ := h2 k' v' hv
    exact ⟨e', by simp [he'], hk'⟩
  ·intro i j hi hj hij
   simp only [Array.size_push] at hi hj
   by_cases h3 : i < es.size <;> by_cases h4 : j < es.size
   ·rw [Array.getElem_push_lt h3, Array.getElem_push_lt h4] at hij
    exact hd i j h3 h4 hij
   ·have e4 : j = es.size := by omega
    subst e4
    rw [Array.getElem_push_lt h3, Array.getElem_push_eq] at hij
    exact absurd hij (hm es[i] (by simp))
   ·have e3 : i = es.size := by omega
    subst e3
    rw [Array.getElem_push_lt h4, Array.getElem_push_eq] at hij
    exact absurd hij.symm (hm es[j] (by simp))
   ·omega
  ·intro e he
   simp only [Array.toList_push, List.mem_append, List.mem_singleton] at he
   rcases he with he | rfl
   ·have := hbn e he; omega
   ·show clock < clock + 1; omega
  ·rw [Array.toList_push, List.map_append, List.nodup_append]
   refine ⟨hnd, by simp, ?_⟩
   intro a ha c hc' e
   simp only [List.map_cons, List.map_nil, List.mem_singleton] at hc'
   obtain ⟨x, hx, rfl⟩ := List.mem_map.1 ha
   have := hbn x hx
   omega
 | some q =>
  obtain ⟨i, v0⟩ := q
  obtain ⟨e0, he0, hk0, hv0⟩ := hm
  have hst := K.stays w k
  have hi : i < es.size := by
   have := (List.getElem?_eq_some_iff.1 he0).1
   simpa using this
  have hget : es[i] = e0 := by
   have := (List.getElem?_eq_some_iff.1 he0).2
   simpa using this
  have hmb : (es.modify i (fun e => { e with key := K.enc k, val := v })).toList.map (·.born) = es.toList.map (·.born) := by
   refine List.ext_getElem (by simp) fun m h1 h2 => ?_
   simp only [List.getElem_map, Array.getElem_toList, Array.getElem_modify]
   split <;> rfl
  refine ⟨_, ?_, ⟨es.modify i (fun e => { e with key := K.enc k, val := v }), clock, hset _, ?_, ?_, ?_, ?_, ?_⟩, hgrow _⟩
  ·have hk : (((es[i]?).map (·.key)).getD (K.enc k)) = K.enc k := by rw [Array.getElem?_eq_getElem hi, hget]; exact hk0
   simp [Instr.mapUpdate, run_underlying ht, getObj, setObj, Sem.run, hb, hc, hr, hget, hi, hk0, hst]
  ·intro e he
   obtain ⟨j, hj, rfl⟩ := List.mem_iff_getElem.1 he
   have hj' : j < es.size := by simpa using hj
   simp only [Array.getElem_toList, Array.getElem_modify]
   split
   ·exact ⟨k, rfl, by simp [put]⟩
   ·rename_i hne
    obtain ⟨k', h3, h4⟩ := h1 es[j] (by simp)
    refine ⟨k', h3, ?_⟩
    have e : ¬ k' = k := by
     rintro rfl
     exact hne (hd i j hi hj' (by rw [hget, hk0, h3]))
    simp [put, e, h4]
  ·intro k' v' hv
   by_cases e : k' = k
   ·subst e
    refine ⟨{ es[i] with key := K.enc k', val := v }, ?_, rfl⟩
    rw [List.mem_iff_getElem]
    exact ⟨i, by simpa using hi, by simp⟩
   ·simp only [put, e, if_false] at hv
    obtain ⟨e', he', hk'⟩ := h2 k' v' hv
    obtain ⟨j, hj, rfl⟩ := List.mem_iff_getElem.1 he'
    have hj' : j < es.size := by simpa using hj
    refine ⟨es[j], ?_, hk'⟩
    rw [List.mem_iff_getElem]
    refine ⟨j, by simpa using hj', ?_⟩
    simp only [Array.getElem_toList, Array.getElem_modify]
    rw [if_neg]
    rintro rfl
    rw [Array.getElem_toList, hget, hk0] at hk'
    exact e (K.inj _ _ hk').symm
  ·have hsame : ∀ (m : Nat) (hm : m < es.size), ((es.modify i (fun e => { e with key := K.enc k, val := v }))[m]'(by simpa using hm)).key = es[m].key := by
    intro m hm
    simp only [Array.getElem_modify]
    split
    ·rename_i h; subst h; rw [hget, hk0]
    ·rfl
   intro m j hm hj hij
   have hm' : m < es.size := by simpa using hm
   have hj' : j < es.size := by simpa using hj
   rw [hsame m hm', hsame j hj'] at hij
   exact hd m j hm' hj' hij
  ·intro e he
   have : e.born ∈ (es.modify i (fun e => { e with key := K.enc k, val := v })).toList.map (·.born) := List.mem_map.2 ⟨e, he, rfl⟩
   rw [hmb] at this
   obtain ⟨x, hx, hxe⟩ := List.mem_map.1 this
   rw [← hxe]
   exact hbn x hx
  ·rw [hmb]; exact hnd
/-- 'for k := range m' under way: block r is the iterator; of the entries that have come, D holds; so many are still to come -/
def RngS {P : Program} {kt : TypeId} {κ : Type} (K : KeyEnc P kt κ) (w : World) (b r : Nat) (f : κ → Option Value) (D : κ → Prop) (cnt : Nat) : Prop :=
 ∃ es clock since seen c0, w.heap[b]? = some (.map es clock) ∧ Entr K es clock f ∧ w.heap[r]? = some (.mapIter (some b) since seen c0) ∧ (∀ e ∈ es.toList, e.born < since) ∧ since ≤ c0 ∧ since ≤ clock ∧
  (leftOf es seen).size = cnt ∧ ∀ e ∈ es.toList, seen.contains e.born = true → ∃ k, e.key = K.enc k ∧ D k
variable {r : Nat} {D : κ → Prop} {cnt : Nat}
theorem RngS.mapS (h : RngS K w b r f D cnt) : MapS K w b f := by
 obtain ⟨es, clock, since, seen, c0, hb, he, _⟩ := h
 exact ⟨es, clock, hb, he⟩
theorem RngS.left (h : RngS K w b r f D cnt) : w.rangeLeft b r = cnt := by
 obtain ⟨es, clock, since, seen, c0, hb, _, hr, _, _, _, hc, _⟩ := h
 simp only [World.rangeLeft, hb, hr]
 exact hc
theorem RngS.lt (h : RngS K w b r f D cnt) : r < w.heap.size := by
 obtain ⟨es, clock, since, seen, c0, hb, _, hr, _⟩ := h
 exact (Array.getElem?_eq_some_iff.1 hr).1
theorem RngS.ext {w' : World} (h : RngS K w b r f D cnt) (hx : Ext w w') : RngS K w' b r f D cnt := by
 obtain ⟨es, clock, since, seen, c0, hb, he, hr, h⟩ := h
 exact ⟨es, clock, since, seen, c0, hx.heap hb, he, hx.heap hr, h⟩
theorem MapS.range (h : MapS K w b f) (D : κ → Prop) {t e : TypeId} (ht : P.underlying t = some (.map kt e)) :
  ∃ w' cnt, (Instr.range t (.map (some b))).run P w = .ok (.pointer (some ⟨w.heap.size, 0, none⟩)) w' ∧ RngS K w' b w.heap.size f D cnt ∧ Ext w w' := by
 have hlt := h.lt
 obtain ⟨es, clock, hb, he⟩ := h
 exact ⟨_, _, run_range_map w t kt e b es clock ht hb, ⟨es, clock, clock, #[], clock, ((MapKept.heap_alloc w _).2 b hlt).trans hb, he, (MapKept.heap_alloc w _).1, he.born, Nat.le_refl _, Nat.le_refl _, rfl, fun e _ h => by simp at h⟩, (Ext.refl w).alloc _⟩
theorem RngS.next (h : RngS K w b r f D cnt) (ty : TypeId) :
  ((∀ k v, f k = some v → D k) ∧ (Instr.next (.pointer (some ⟨r, 0, none⟩)) false ty).run P w = .ok (.tuple #[.bool false]) w) ∨
  ∃ k v w' cnt', f k = some v ∧ (Instr.next (.pointer (some ⟨r, 0, none⟩)) false ty).run P w = .ok (.tuple #[.bool true, K.enc k, v]) w' ∧ RngS K w' b r f (fun k' => D k' ∨ k' = k) cnt' ∧ cnt' < cnt ∧ w.grownBy w' (some r) ∧
   (Instr.entry (.pointer (some ⟨r, 0, none⟩))).run P w' = .ok (.tuple #[K.enc k, v]) w' := by
 obtain ⟨es, clock, since, seen, c0, hb, he, hr, hold, hsc, hsk, rfl, hdone⟩ := h
 have hne : r ≠ b := by
  intro e
  rw [e, hb] at hr
  cases hr
 rcases run_next_at (P := P) w ty r b since c0 seen es clock hr hb hold hsc with ⟨h0, hrun⟩ | ⟨e, hel, w1, hal, hrun⟩
 ·refine .inl ⟨fun k v hk => ?_, hrun⟩
  obtain ⟨e, hem, hek⟩ := he.all k v hk
  obtain ⟨k', h1, h2⟩ := hdone e hem (all_seen es seen h0 e hem)
  have : k' = k := K.inj _ _ (h1.symm.trans hek)
  subst this
  exact h2
 ·obtain ⟨hem, hes⟩ := mem_left hel
  obtain ⟨k, hk, hfk⟩ := he.has e hem
  have hr1 : w1.heap[r]? = some (.mapIter (some b) since seen c0) := by rcases hal with rfl | rfl <;> exact hr
  have hb1 : w1.heap[b]? = some (.map es clock) := by rcases hal with rfl | rfl <;> exact hb
  have hset := MapKept.heap_set (o' := .mapIter (some b) since (seen.push e.born) clock) hr1
  have hb' : (ChangeMaps.setBlock w1 r (.mapIter (some b) since (seen.push e.born) clock)).heap[b]? = some (.map es clock) := (hset.2 b (fun e1 => hne e1.symm)).trans hb1
  refine .inr ⟨k, e.val, _, _, hfk, by rw [← hk]; exact hrun, ⟨es, clock, since, seen.push e.born, clock, hb', he, hset.1, hold, hsk, hsk, rfl, fun x hx hxs => ?_⟩, left_shrinks es seen e hel, ?_, ?_⟩
  ·rw [contains_push, Bool.or_eq_true] at hxs
   rcases hxs with hxs | hxs
   ·obtain ⟨k', h1, h2⟩ := hdone x hx hxs
    exact ⟨k', h1, .inl h2⟩
   ·have : x = e := born_inj he.nodup hx hem (by simpa using hxs)
    subst this
    exact ⟨k, hk, .inr rfl⟩
  ·rcases hal with rfl | rfl <;> exact ⟨rfl, rfl, rfl, by simp [ChangeMaps.setBlock], fun i _ hi => hset.2 i (fun e1 => hi (by rw [e1]))⟩
  ·rw [← hk]
   exact run_entry_at _ r b since seen es clock e hset.1 hb' hem he.nodup
end
section
variable {P : Program} {ops : Array Oper} {rest : List Oper} {o : Oper} {a : Act} {Q : Exit → Act → World → Prop} {kt : TypeId} {κ : Type} {w : World}
theorem wpList_update_S [DecidableEq κ] (K : KeyEnc P kt κ) (hg : o.guard = none) (m x v : Operand) (t e : TypeId) (hop : o.op = Op.mapUpdate t m x v) (ht : P.underlying t = some (.map kt e))
  (b : Nat) (f : κ → Option Value) (k : κ) (hm : a.eval m = .map (some b)) (hx : a.eval x = K.enc k) (h : MapS K w b f)
  (hK : ∀ w', MapS K w' b (put f k (a.eval v)) → w.grownBy w' (some b) → wpList P ops Q rest (a.put o.dst undef) w') : wpList P ops Q (o :: rest) a w := by
 refine wpList_plain hg fun K' hK' => ?_
 obtain ⟨w', hrun, h1, h2⟩ := h.update ht k (a.eval v)
 unfold Oper.wp
 simp [execOp, hop, hm, hx, hrun, Result.andThen]
 exact hK' _ _ (hK w' h1 h2)
theorem wpList_range_S (K : KeyEnc P kt κ) (D : κ → Prop) (hg : o.guard = none) (m : Operand) (t e : TypeId) (hop : o.op = Op.range t m) (ht : P.underlying t = some (.map kt e)) (b : Nat) (f : κ → Option Value)
  (hm : a.eval m = .map (some b)) (h : MapS K w b f)
  (hK : ∀ w' cnt, RngS K w' b w.heap.size f D cnt → Ext w w' → wpList P ops Q rest (a.put o.dst (.pointer (some ⟨w.heap.size, 0, none⟩))) w') : wpList P ops Q (o :: rest) a w := by
 refine wpList_plain hg fun K' hK' => ?_
 obtain ⟨w', cnt, hrun, r1, r2⟩ := h.range D ht
 unfold Oper.wp
 simp [execOp, hop, hm, hrun, Result.andThen]
 exact hK' _ _ (hK w' cnt r1 r2)
theorem wpList_next_S (K : KeyEnc P kt κ) (D : κ → Prop) (hg : o.guard = none) (it : Operand) (hop : o.op = Op.next it false) (b r : Nat) (f : κ → Option Value) (cnt : Nat)
  (hit : a.eval it = .pointer (some ⟨r, 0, none⟩)) (h : RngS K w b r f D cnt)
  (hDone : (∀ k v, f k = some v → D k) → wpList P ops Q rest (a.put o.dst (.tuple #[.bool false])) w)
  (hMore : ∀ k v w' cnt', f k = some v → RngS K w' b r f (fun k' => D k' ∨ k' = k) cnt' → cnt' < cnt → w.grownBy w' (some r) → (Instr.entry (.pointer (some ⟨r, 0, none⟩))).run P w' = .ok (.tuple #[K.enc k, v]) w' →
   wpList P ops Q rest (a.put o.dst (.tuple #[.bool true, K.enc k, v])) w') : wpList P ops Q (o :: rest) a w := by
 refine wpList_plain hg fun K' hK' => ?_
 unfold Oper.wp
 rcases h.next o.type with ⟨h0, hrun⟩ | ⟨k, v, w', cnt', hk, hrun, hr, hlt, hgr, hen⟩
 ·simp [execOp, hop, hit, hrun, Result.andThen]
  exact hK' _ _ (hDone h0)
 ·simp [execOp, hop, hit, hrun, Result.andThen]
  exact hK' _ _ (hMore k v w' cnt' hk hr hlt hgr hen)
end
end Go.Proofs.YtldnjnnhfeobdaaGreatDoor
/- Types that are the same: no way tells them, their texts are equal; others: the way that is found tells them, and it is a least one. No program. -/
namespace Go.Proofs.YtldnjnnhfeobdaaGreatDoor
open Go.RowKit Go.Shelf
end Go.Proofs.YtldnjnnhfeobdaaGreatDoor
/- Pairs that show that types are the same; graphs that are equal. No program. No condition. -/
namespace Go.Proofs.YtldnjnnhfeobdaaGreatDoor
open Go.RowKit
def inG (g : Graph) (i : Int) : Bool := decide (0 ≤ i ∧ i < g.length)
/-- the references of a pair of types, pair by pair -/
def refsP (g : Graph) (p : Int × Int) : List (Int × Int) := (refsL (getT g p.1.toNat)).zip (refsL (getT g p.2.toNat))
def pairB (g : Graph) (l : List (Int × Int)) (p : Int × Int) : Bool :=
 (inG g p.1 && inG g p.2) && (agreeT (getT g p.1.toNat) (getT g p.2.toNat) && (refsP g p).all fun q => decide (q ∈ l))
def pairsB (g : Graph) (l : List (Int × Int)) : Bool := l.all (pairB g l)
def chkEqE (g : Graph) (l : List (Int × Int)) : Int := if errG g [] = 0 then (if 2000 < l.length then 2 else 0) else errG g []
def chkEqB (g : Graph) (l : List (Int × Int)) : Bool := if errG g [] = 0 ∧ l.length ≤ 2000 then pairsB g l else false
theorem inG_iff {g : Graph} {i : Int} : inG g i = true ↔ 0 ≤ i ∧ i < g.length := by unfold inG; simp
end Go.Proofs.YtldnjnnhfeobdaaGreatDoor
/- Contract: CheckEqual. Conditions: a tidy graph, at most 2^20 pairs. -/
namespace Go.Proofs.YtldnjnnhfeobdaaGreatDoor
open Go.RowKit Go.Shelf
/-- pairs as a map -/
def prsF (l : List (Int × Int)) : Int × Int → Option Value := fun q => if q ∈ l then some (.bool true) else none
theorem prsF_nil : prsF [] = fun _ => none := by funext q; simp [prsF]
theorem prsF_put (l : List (Int × Int)) (p : Int × Int) : put (prsF l) p (.bool true) = prsF (l ++ [p]) := by
 funext q
 unfold put prsF
 by_cases e : q = p
 ·simp [e]
 ·by_cases h : q ∈ l <;> simp [e, h]
theorem prsF_getD (l : List (Int × Int)) (p : Int × Int) : (prsF l p).getD (.bool false) = .bool (decide (p ∈ l)) := by
 unfold prsF
 by_cases h : p ∈ l <;> simp [h]
theorem prsF_some {l : List (Int × Int)} {p : Int × Int} {v : Value} (h : prsF l p = some v) : p ∈ l := by
 unfold prsF at h
 by_cases e : p ∈ l
 ·exact e
 ·simp [e] at h
theorem hasB_inG (g : Graph) (i : Int) : hasB g.length i = inG g i := by
 unfold hasB inG inB
 rw [Bool.eq_iff_iff]; simp; omega
theorem RngS.imp {P : Program} {kt : TypeId} {κ : Type} {K : KeyEnc P kt κ} {w : World} {b r cnt : Nat} {f : κ → Option Value} {D D' : κ → Prop} (h : RngS K w b r f D cnt) (hD : ∀ k, D k → D' k) : RngS K w b r f D' cnt := by
 obtain ⟨es, clock, since, seen, c0, hb, he, hr, h1, h2, h3, h4, h5⟩ := h
 exact ⟨es, clock, since, seen, c0, hb, he, hr, h1, h2, h3, h4, fun e hm hs => let ⟨k, a, b⟩ := h5 e hm hs; ⟨k, a, hD k b⟩⟩
/-- why pairs are none -/
theorem pairs_no {g : Graph} {l : List (Int × Int)} {p : Int × Int} (hp : p ∈ l) (h : pairB g l p = false) : pairsB g l = false := by
 unfold pairsB
 rw [List.all_eq_false]
 exact ⟨p, hp, by rw [h]; decide⟩
theorem pair_no1 {g : Graph} {l : List (Int × Int)} {p : Int × Int} (h : inG g p.1 = false) : pairB g l p = false := by unfold pairB; rw [h]; rfl
theorem pair_no2 {g : Graph} {l : List (Int × Int)} {p : Int × Int} (h : inG g p.2 = false) : pairB g l p = false := by unfold pairB; rw [h]; simp
theorem pair_no3 {g : Graph} {l : List (Int × Int)} {p : Int × Int} (h : agreeT (getT g p.1.toNat) (getT g p.2.toNat) = false) : pairB g l p = false := by unfold pairB; rw [h]; simp
theorem pair_no4 {g : Graph} {l : List (Int × Int)} {p : Int × Int} {k : Nat} (h1 : k < (refsL (getT g p.1.toNat)).length) (h2 : k < (refsL (getT g p.2.toNat)).length)
  (h : ((refsL (getT g p.1.toNat))[k], (refsL (getT g p.2.toNat))[k]) ∉ l) : pairB g l p = false := by
 unfold pairB refsP
 have : (((refsL (getT g p.1.toNat)).zip (refsL (getT g p.2.toNat))).all fun q => decide (q ∈ l)) = false := by
  rw [List.all_eq_false]
  refine ⟨_, List.mem_iff_getElem.2 ⟨k, by simp; omega, rfl⟩, ?_⟩
  simpa using h
 rw [this]; simp
theorem pair_yes {g : Graph} {l : List (Int × Int)} {p : Int × Int} (h1 : inG g p.1 = true) (h2 : inG g p.2 = true) (h3 : agreeT (getT g p.1.toNat) (getT g p.2.toNat) = true) {k : Nat} (hk : ¬ k < (refsL (getT g p.1.toNat)).length)
  (h : ∀ i (h1 : i < (refsL (getT g p.1.toNat)).length) (h2 : i < (refsL (getT g p.2.toNat)).length), i < k → ((refsL (getT g p.1.toNat))[i], (refsL (getT g p.2.toNat))[i]) ∈ l) : pairB g l p = true := by
 unfold pairB refsP
 rw [h1, h2, h3]
 simp only [Bool.true_and, List.all_eq_true, decide_eq_true_eq]
 intro q hq
 obtain ⟨i, hi, rfl⟩ := List.mem_iff_getElem.1 hq
 simp only [List.length_zip] at hi
 rw [List.getElem_zip]
 exact h i (by omega) (by omega) (by omega)
/-- the graph's box and the set of pairs -/
structure CeSt (w : World) (bg mb : Nat) (gv : Value) (f : Int × Int → Option Value) (wr : World) : Prop where
 ext : Ext w wr
 box : wr.heap[bg]? = some (.cells #[gv] 77 (0, 0))
 map : MapS pairK wr mb f
 nb : w.heap.size ≤ mb ∧ bg ≠ mb
theorem CeSt.later {w wr wr' : World} {bg mb : Nat} {gv : Value} {f : Int × Int → Option Value} (h : CeSt w bg mb gv f wr) (hx : Ext wr wr') : CeSt w bg mb gv f wr' :=
 ⟨h.ext.trans hx, hx.heap h.box, h.map.ext hx, h.nb⟩
theorem CeSt.put {w wr wr' : World} {bg mb : Nat} {gv : Value} {f f' : Int × Int → Option Value} (h : CeSt w bg mb gv f wr) (hg : wr.grownBy wr' (some mb)) (hm : MapS pairK wr' mb f') : CeSt w bg mb gv f' wr' :=
 ⟨Below.grown h.ext hg h.ext.size (fun k hk => by cases hk; exact h.nb.1), (hg.block bg (Array.getElem?_eq_some_iff.1 h.box).1 (by simpa using h.nb.2)).trans h.box, hm, h.nb⟩
end Go.Proofs.YtldnjnnhfeobdaaGreatDoor
/- Contract of the reference: Equal. Conditions: lengths below 2^20. -/
namespace Go.Proofs.YtldnjnnhfeobdaaGreatDoor
open Go.RowKit Go.Shelf
set_option maxRecDepth 100000 in
set_option maxHeartbeats 4000000 in
theorem requal_any (w : World) (gv : Value) (g : Graph) (a b : Int) (hg : Sl tyE w gv g) (hT : Tidy g) :
  Calls Tryz.prog 37 #[gv, .int .i64 a, .int .i64 b] w (Ret w (.tuple #[.bool (equalG g a b), .int .i64 (errG g [a, b])])) := by
 have hop := rchecked_any (w.alloc (.cells #[.int .i64 a, .int .i64 b] 3)) gv _ g [a, b] (hg.mono ((Ext.refl w).alloc _)) hT (lit_ints w [a, b] 2 rfl) (by simp)
 have hcl := fun (w' : World) (hx : Ext w w') (hW : WF g) => rclasses_any w' gv g (hg.mono hx) hT hW
 have hn := hT.len
 obtain ⟨A, cap, rfl⟩ := hg.len
 unfold equalG
 by_cases h0 : errG g [a, b] = 0
 ·rw [if_pos h0]
  rw [h0] at hop ⊢
  obtain ⟨hW, hab⟩ := errG_zero h0
  obtain ⟨a0, a1⟩ := hab a (by simp)
  obtain ⟨b0, b1⟩ := hab b (by simp)
  obtain ⟨i, rfl⟩ := Int.eq_ofNat_of_zero_le a0
  obtain ⟨j, rfl⟩ := Int.eq_ofNat_of_zero_le b0
  rw [Int.toNat_natCast, Int.toNat_natCast]
  have hcl := fun w' hx => hcl w' hx hW
  have hln := classesG_length g hW
  have hb : ((((classesG g).getD i 0 : Nat) : Int) == (((classesG g).getD j 0 : Nat) : Int)) = sameG g i j := by
   unfold sameG; rw [Bool.eq_iff_iff, beq_iff_eq, decide_eq_true_eq]; omega
  have Hop := Lib.hid hop
  have Hcl := Lib.hid hcl
  have Hb := Lib.hid hb
  have Hln := Lib.hid hln
  clear hop hcl hg hT h0 hab hW hb hln
  go_enter Tryz.func37, Tryz.ntmps37
  go_wp2_with fail
  refine Hop.out.mono ?_
  rintro e w1 ⟨rfl, hx1⟩
  have Hx1 := Lib.hid (((Ext.refl w).alloc (.cells #[.int .i64 i, .int .i64 j] 3)).trans hx1)
  clear hx1
  go_wp2_with fail
  refine (Hcl.out _ Hx1.out).mono ?_
  rintro e w2 ⟨v, rfl, hv, hx2⟩
  obtain ⟨Av, cv, rfl, hs⟩ := Sl.nat hv.any
  obtain ⟨bb, off, rfl, c1⟩ := hs i (by rw [Hln.out]; omega)
  obtain ⟨bb', off', e2, c2⟩ := hs j (by rw [Hln.out]; omega)
  simp only [Option.some.injEq, Addr.mk.injEq, and_true] at e2
  obtain ⟨rfl, rfl⟩ := e2
  have hb := Hb.out
  have Hx2 := Lib.hid (Hx1.out.trans hx2)
  generalize (classesG g).getD i 0 = ci at c1 hb
  generalize (classesG g).getD j 0 = cj at c2 hb
  rw [Hln.out]
  clear hs hv hx2
  go_wp2_with fail
  go_quiet (fail)
  go_wp2_with fail
  go_ret2
  exact ⟨rfl, Hx2.out.drewN _⟩
 ·rw [if_neg h0]
  have hne : (errG g [a, b] != 0) = true := by simpa using h0
  generalize errG g [a, b] = er at hop hne ⊢
  have Hop := Lib.hid hop
  clear hop hcl hg hT h0
  go_enter Tryz.func37, Tryz.ntmps37
  go_wp2_with fail
  refine Hop.out.mono ?_
  rintro e w1 ⟨rfl, hx1⟩
  go_wp2_with fail
  go_ret2
  exact ⟨rfl, ((Ext.refl w).alloc _).trans hx1⟩
end Go.Proofs.YtldnjnnhfeobdaaGreatDoor
/- Contract of the reference: CheckEqual. Conditions: lengths below 2^20. -/
namespace Go.Proofs.YtldnjnnhfeobdaaGreatDoor
open Go.RowKit Go.Shelf
section
variable {P : Program} {md : Region.Mode} {ops : Array Oper} {Q : Exit → Act → World → Prop} {S : World → Prop}
theorem takeH {i : Nat} {oi : Oper} {v : Value} (d : Option Nat) (l2 : Array Bool) {fuel : Nat} {listed : Array Bool} {a : Act} {w : World} (hi : ops[i]? = some oi) (hd : oi.dst = d) (hl : listed.setIfInBounds i true = l2)
  (hs : Region.noSelect ops = true) (hf : Region.free md ops listed i = true) (hr : (Region.ready md ops listed).contains i = true)
  (hQ : ∀ c a w, Q (.panic c) (a.put oi.dst v) w → Q (.panic c) a w) (hy : YieldsIf P ops S oi v a) (hS : S w)
  (h : wpAnyH P md ops Q S fuel l2 (a.put d v) w) : wpAnyH P md ops Q S (fuel + 1) listed a w :=
 wpAnyH_take hi hs hf hr hQ hy hS (by rw [hd, hl]; exact h)
end
set_option maxRecDepth 100000 in
set_option maxHeartbeats 16000000 in
theorem rcheckEqual_any (w : World) (gv lv : Value) (g : Graph) (l : List (Int × Int)) (hg : Sl tyE w gv g) (hT : Tidy g) (hlv : Sl pairE w lv l) (hln : l.length ≤ 1048576) :
  Calls Tryz.prog 39 #[gv, lv] w (Ret w (.tuple #[.bool (chkEqB g l), .int .i64 (chkEqE g l)])) := by
 have hop := rchecked_any w gv (.slice none 0 0) g [] hg hT (Sl.nil _ _) (by simp)
 have hck := fun (x y : Int) (w' : World) (hx : Ext w w') => rchecked_any ((w'.alloc (.cells #[.int .i64 x, .int .i64 y] 3)).drew) gv _ g [x, y] ((hg.mono hx).mono ((Ext.refl w').alloc _).drew) hT ((lit_ints w' [x, y] 2 rfl).mono (Ext.refl _).drew) (by simp)
 have hpd := fun (x y : Int) (w' : World) (hx : Ext w w') => paired_any w' lv l x y (hlv.mono hx) hln
 have hn := hT.len
 have hty : ∀ i, i < g.length → TySmall (getT g i) := fun i hi => (hT.ty _ (getT_mem hi)).1
 obtain ⟨A, cap, rfl, hs⟩ := hg.ty
 obtain ⟨B, cl, rfl, hp⟩ := hlv.pair
 by_cases h0 : errG g [] = 0
 case neg =>
  have e1 : chkEqB g l = false := by unfold chkEqB; rw [if_neg (fun h => h0 h.1)]
  have e2 : chkEqE g l = errG g [] := by unfold chkEqE; rw [if_neg h0]
  rw [e1, e2]
  have hne : (errG g [] != 0) = true := by simpa using h0
  have hnq : (errG g [] == 0) = false := by simpa using h0
  clear hck hpd
  generalize errG g [] = er at hop hne hnq ⊢
  have Hop := Lib.hid hop
  clear hop hg hT h0 hp hlv e1 e2 hs hty
  go_enter Tryz.func39, Tryz.ntmps39
  go_wp2_with fail
  refine Hop.out.mono ?_
  rintro e w1 ⟨rfl, hx1⟩
  go_wp2_with fail
  go_ret2
  exact ⟨rfl, hx1⟩
 rw [h0] at hop
 by_cases h2 : 2000 < l.length
 ·have e1 : chkEqB g l = false := by unfold chkEqB; rw [if_neg (fun h => by omega)]
  have e2 : chkEqE g l = 2 := by unfold chkEqE; rw [if_pos h0, if_pos h2]
  rw [e1, e2]
  have q : (2000 : Int) < (l.length : Int) := by omega
  have Hop := Lib.hid hop
  clear hop hck hpd hg hT h0 hp hlv e1 e2 hs hty
  go_enter Tryz.func39, Tryz.ntmps39
  go_wp2_with fail
  refine Hop.out.mono ?_
  rintro e w1 ⟨rfl, hx1⟩
  go_wp2_with fail
  go_ret2
  exact ⟨rfl, hx1⟩
 have e1 : chkEqB g l = pairsB g l := by unfold chkEqB; rw [if_pos ⟨h0, by omega⟩]
 have e2 : chkEqE g l = 0 := by unfold chkEqE; rw [if_pos h0, if_neg h2]
 rw [e1, e2]
 have q : ¬ (2000 : Int) < (l.length : Int) := by omega
 obtain ⟨hW, _⟩ := errG_zero h0
 have Hop := Lib.hid hop
 have Hck' := Lib.hid hck
 have Hpd' := Lib.hid hpd
 have Hp := Lib.hid hp
 have Hs := Lib.hid hs
 have HW := Lib.hid hW
 have Hty := Lib.hid hty
 clear hop hck hpd hg hT h0 hp hlv e1 e2 h2 hW hs hty
 go_enter Tryz.func39, Tryz.ntmps39
 go_wp2_with fail
 refine Hop.out.mono ?_
 rintro e w1 ⟨rfl, hx1⟩
 have Hx1 := Lib.hid hx1
 clear hx1
 go_wp2_with fail
 clear q
 go_loopw [7] (fun u wr => ∃ k : Nat, k ≤ l.length ∧ u = .int .i64 k ∧ Hid (Ext w wr) ∧ Hid (∀ i (h : i < l.length), i < k → pairB g l l[i] = true)) (fun u _ => l.length - (intOf u).toNat)
 case atStart => exact ⟨0, by omega, rfl, Hx1, Lib.hid (fun i _ h => by omega)⟩
 case round =>
  clear Hx1
  obtain ⟨k, hk, rfl, Hx, Hin⟩ := hrel
  by_cases hlt : k < l.length
  ·obtain ⟨b, off, rfl, p0, p1⟩ := Hp.out k hlt
   replace p0 := Hx.out.cell p0
   replace p1 := Hx.out.cell p1
   have lp := cell_lt p0
   have i0 : (0 : Int) ≤ (k : Int) := by omega
   have i1 : (k : Int) < (l.length : Int) := by omega
   have hm : l[k] ∈ l := List.getElem_mem hlt
   have Hyes := Lib.hid (show pairB g l l[k] = true → ∀ i (h1 : i < l.length), i < k + 1 → pairB g l l[i] = true from fun h i h1 hik => by
    by_cases e : i = k
    ·subst e; exact h
    ·exact Hin.out i h1 (by omega))
   generalize l[k] = p at *
   have Hno := Lib.hid (fun (h : pairB g l p = false) => pairs_no hm h)
   obtain ⟨x, y⟩ := p
   simp only at p0 p1 Hyes Hno
   have hck := Hck'.out x y
   clear hm Hin
   by_cases hE : errG g [x, y] = 0
   case neg =>
    have hnn : pairB g l (x, y) = false := by
     cases hx : inG g x with
     | false => exact pair_no1 hx
     | true =>
      cases hy : inG g y with
      | false => exact pair_no2 hy
      | true =>
       rw [inG_iff] at hx hy
       exact absurd (errG_of HW.out (by intro a ha; simp at ha; rcases ha with rfl | rfl <;> assumption)) hE
    have Hv := Lib.hid (Hno.out hnn)
    have hne : (errG g [x, y] != 0) = true := by simpa using hE
    generalize errG g [x, y] = er at *
    have Hck := Lib.hid hck
    clear hck hE hnn Hno Hyes Hck' Hpd' Hs Hty HW Hp
    go_upto_region 11 with fail
    refine wp_region_held_drew (S := (fun w' => Ext wr w')) (by kernel_rfl) ?_ (fun hHeld => ?_)
    ·(try dsimp only)
     first | (with_reducible exact (Ext.refl _).drew) | (with_reducible exact ((Ext.refl _).alloc _).drew) | (with_reducible exact hxa)
    refine takeH (i := 0) (v := ?_) (some 41) #[true, false, false, false, false, false, false, false, false, false, false, false, false, false, false, false, false, false] rfl rfl rfl (by kernel_rfl) (by kernel_rfl) (by kernel_rfl) (fun _ _ _ h => h) (Or.inl ⟨by rfl, ?_⟩) (by assumption) ?_
    rotate_left
    ·intro w hSw
     (try dsimp only at hSw)
     go_simp
     (first | done | with_reducible rfl | exact rfl)
    (try simp only [Act.put, List.setIfInBounds_toArray, List.set_cons_zero, List.set_cons_succ])
    refine takeH (i := 1) (v := ?_) (some 42) #[true, true, false, false, false, false, false, false, false, false, false, false, false, false, false, false, false, false] rfl rfl rfl (by kernel_rfl) (by kernel_rfl) (by kernel_rfl) (fun _ _ _ h => h) (Or.inl ⟨by rfl, ?_⟩) (by assumption) ?_
    rotate_left
    ·intro w hSw
     (try dsimp only at hSw)
     go_simp
     (first | done | with_reducible rfl | exact rfl)
    (try simp only [Act.put, List.setIfInBounds_toArray, List.set_cons_zero, List.set_cons_succ])
    refine takeH (i := 2) (v := ?_) (some 43) #[true, true, true, false, false, false, false, false, false, false, false, false, false, false, false, false, false, false] rfl rfl rfl (by kernel_rfl) (by kernel_rfl) (by kernel_rfl) (fun _ _ _ h => h) (Or.inl ⟨by rfl, ?_⟩) (by assumption) ?_
    rotate_left
    ·intro w hSw
     (try dsimp only at hSw)
     go_simp
     (first | done | with_reducible rfl | exact rfl)
    (try simp only [Act.put, List.setIfInBounds_toArray, List.set_cons_zero, List.set_cons_succ])
    refine wpAnyH_ready (rs := [3]) (by kernel_rfl) (by simp) ?_
    refine AllReadyH.cons rfl (fun K hK => ?_) ?_
    ·go_simp
     refine hK.out _ _ ?_ (fun hHeld => ?_)
     ·(try dsimp only)
      first | (with_reducible exact (Ext.refl _).drew) | (with_reducible exact ((Ext.refl _).alloc _).drew) | (with_reducible exact hxa)
     clear hK K
     (try simp only [Act.put, List.setIfInBounds_toArray, List.set_cons_zero, List.set_cons_succ])
     refine wpAnyH_ready (rs := [4]) (by kernel_rfl) (by simp) ?_
     refine AllReadyH.cons rfl (fun K hK => ?_) ?_
     ·go_simp
      go_at_call 57
      refine (Hck.out _ Hx.out).mono ?_
      rintro e wa ⟨rfl, hxa0⟩
      have hxa := ((Ext.refl wr).alloc _).drew.trans hxa0
      clear hxa0
      refine hK.out _ _ ?_ (fun hHeld => ?_)
      ·(try dsimp only)
       first | (with_reducible exact (Ext.refl _).drew) | (with_reducible exact ((Ext.refl _).alloc _).drew) | (with_reducible exact hxa)
      clear hK K
      (try simp only [Act.put, List.setIfInBounds_toArray, List.set_cons_zero, List.set_cons_succ])
      refine takeH (i := 5) (v := ?_) (some 46) #[true, true, true, true, true, true, false, false, false, false, false, false, false, false, false, false, false, false] rfl rfl rfl (by kernel_rfl) (by kernel_rfl) (by kernel_rfl) (fun _ _ _ h => h) (Or.inl ⟨by rfl, ?_⟩) (by assumption) ?_
      rotate_left
      ·intro w hSw
       (try dsimp only at hSw)
       go_simp
       (first | done | with_reducible rfl | exact rfl)
      (try simp only [Act.put, List.setIfInBounds_toArray, List.set_cons_zero, List.set_cons_succ])
      refine takeH (i := 6) (v := ?_) (some 47) #[true, true, true, true, true, true, true, false, false, false, false, false, false, false, false, false, false, false] rfl rfl rfl (by kernel_rfl) (by kernel_rfl) (by kernel_rfl) (fun _ _ _ h => h) (Or.inl ⟨by rfl, ?_⟩) (by assumption) ?_
      rotate_left
      ·intro w hSw
       (try dsimp only at hSw)
       go_simp
       (first | done | with_reducible rfl | exact rfl)
      (try simp only [Act.put, List.setIfInBounds_toArray, List.set_cons_zero, List.set_cons_succ])
      refine takeH (i := 7) (v := undef) (some 48) #[true, true, true, true, true, true, true, true, false, false, false, false, false, false, false, false, false, false] rfl rfl rfl (by kernel_rfl) (by kernel_rfl) (by kernel_rfl) (fun _ _ _ h => h) (Or.inr ⟨by kernel_rfl, rfl⟩) (by assumption) ?_
      (try simp only [Act.put, List.setIfInBounds_toArray, List.set_cons_zero, List.set_cons_succ])
      refine takeH (i := 8) (v := undef) (some 49) #[true, true, true, true, true, true, true, true, true, false, false, false, false, false, false, false, false, false] rfl rfl rfl (by kernel_rfl) (by kernel_rfl) (by kernel_rfl) (fun _ _ _ h => h) (Or.inr ⟨by kernel_rfl, rfl⟩) (by assumption) ?_
      (try simp only [Act.put, List.setIfInBounds_toArray, List.set_cons_zero, List.set_cons_succ])
      refine takeH (i := 9) (v := undef) (some 50) #[true, true, true, true, true, true, true, true, true, true, false, false, false, false, false, false, false, false] rfl rfl rfl (by kernel_rfl) (by kernel_rfl) (by kernel_rfl) (fun _ _ _ h => h) (Or.inr ⟨by kernel_rfl, rfl⟩) (by assumption) ?_
      (try simp only [Act.put, List.setIfInBounds_toArray, List.set_cons_zero, List.set_cons_succ])
      refine takeH (i := 10) (v := undef) (some 51) #[true, true, true, true, true, true, true, true, true, true, true, false, false, false, false, false, false, false] rfl rfl rfl (by kernel_rfl) (by kernel_rfl) (by kernel_rfl) (fun _ _ _ h => h) (Or.inr ⟨by kernel_rfl, rfl⟩) (by assumption) ?_
      (try simp only [Act.put, List.setIfInBounds_toArray, List.set_cons_zero, List.set_cons_succ])
      refine takeH (i := 11) (v := undef) (some 52) #[true, true, true, true, true, true, true, true, true, true, true, true, false, false, false, false, false, false] rfl rfl rfl (by kernel_rfl) (by kernel_rfl) (by kernel_rfl) (fun _ _ _ h => h) (Or.inr ⟨by kernel_rfl, rfl⟩) (by assumption) ?_
      (try simp only [Act.put, List.setIfInBounds_toArray, List.set_cons_zero, List.set_cons_succ])
      refine takeH (i := 12) (v := undef) (some 53) #[true, true, true, true, true, true, true, true, true, true, true, true, true, false, false, false, false, false] rfl rfl rfl (by kernel_rfl) (by kernel_rfl) (by kernel_rfl) (fun _ _ _ h => h) (Or.inr ⟨by kernel_rfl, rfl⟩) (by assumption) ?_
      (try simp only [Act.put, List.setIfInBounds_toArray, List.set_cons_zero, List.set_cons_succ])
      refine takeH (i := 13) (v := undef) (some 54) #[true, true, true, true, true, true, true, true, true, true, true, true, true, true, false, false, false, false] rfl rfl rfl (by kernel_rfl) (by kernel_rfl) (by kernel_rfl) (fun _ _ _ h => h) (Or.inr ⟨by kernel_rfl, rfl⟩) (by assumption) ?_
      (try simp only [Act.put, List.setIfInBounds_toArray, List.set_cons_zero, List.set_cons_succ])
      refine takeH (i := 14) (v := undef) (some 55) #[true, true, true, true, true, true, true, true, true, true, true, true, true, true, true, false, false, false] rfl rfl rfl (by kernel_rfl) (by kernel_rfl) (by kernel_rfl) (fun _ _ _ h => h) (Or.inr ⟨by kernel_rfl, rfl⟩) (by assumption) ?_
      (try simp only [Act.put, List.setIfInBounds_toArray, List.set_cons_zero, List.set_cons_succ])
      refine takeH (i := 15) (v := undef) (some 56) #[true, true, true, true, true, true, true, true, true, true, true, true, true, true, true, true, false, false] rfl rfl rfl (by kernel_rfl) (by kernel_rfl) (by kernel_rfl) (fun _ _ _ h => h) (Or.inr ⟨by kernel_rfl, rfl⟩) (by assumption) ?_
      (try simp only [Act.put, List.setIfInBounds_toArray, List.set_cons_zero, List.set_cons_succ])
      refine takeH (i := 16) (v := undef) (some 57) #[true, true, true, true, true, true, true, true, true, true, true, true, true, true, true, true, true, false] rfl rfl rfl (by kernel_rfl) (by kernel_rfl) (by kernel_rfl) (fun _ _ _ h => h) (Or.inr ⟨by kernel_rfl, rfl⟩) (by assumption) ?_
      (try simp only [Act.put, List.setIfInBounds_toArray, List.set_cons_zero, List.set_cons_succ])
      refine takeH (i := 17) (v := ?_) (some 58) #[true, true, true, true, true, true, true, true, true, true, true, true, true, true, true, true, true, true] rfl rfl rfl (by kernel_rfl) (by kernel_rfl) (by kernel_rfl) (fun _ _ _ h => h) (Or.inl ⟨by rfl, ?_⟩) (by assumption) ?_
      rotate_left
      ·intro w hSw
       (try dsimp only at hSw)
       go_simp
       (first | done | with_reducible rfl | exact rfl)
      (try simp only [Act.put, List.setIfInBounds_toArray, List.set_cons_zero, List.set_cons_succ])
      refine wpAnyH_done (by kernel_rfl) ?_ _
      have Hxa := Lib.hid (Hx.out.trans hxa)
      clear hxa
      go_wp2_with fail
      go_ret2
      rw [Hv.out]
      exact ⟨rfl, Hxa.out⟩
     exact AllReadyH.nil
    exact AllReadyH.nil
   case pos =>
    obtain ⟨_, hab⟩ := errG_zero hE
    obtain ⟨a0, a1⟩ := hab x (by simp)
    obtain ⟨b0, b1⟩ := hab y (by simp)
    obtain ⟨i, rfl⟩ := Int.eq_ofNat_of_zero_le a0
    obtain ⟨j, rfl⟩ := Int.eq_ofNat_of_zero_le b0
    have hi : i < g.length := by omega
    have hj : j < g.length := by omega
    rw [hE] at hck
    have hno3 : agreeT (getT g i) (getT g j) = false → pairsB g l = false := fun h => Hno.out (pair_no3 h)
    have hno4 : ∀ (n : Nat) (h1 : n < (refsL (getT g i)).length) (h2 : n < (refsL (getT g j)).length), ((refsL (getT g i))[n], (refsL (getT g j))[n]) ∉ l → pairsB g l = false := fun n h1 h2 h => Hno.out (pair_no4 (p := ((i : Int), (j : Int))) h1 h2 h)
    have hyes2 : agreeT (getT g i) (getT g j) = true → (∀ n (h1 : n < (refsL (getT g i)).length) (h2 : n < (refsL (getT g j)).length), ((refsL (getT g i))[n], (refsL (getT g j))[n]) ∈ l) → pairB g l ((i : Int), (j : Int)) = true := fun h h' => pair_yes (p := ((i : Int), (j : Int))) (k := (refsL (getT g i)).length) (inG_iff.2 ⟨a0, a1⟩) (inG_iff.2 ⟨b0, b1⟩) h (Nat.lt_irrefl _) (fun n h1 h2 _ => h' n h1 h2)
    have hlen := fun (h : agreeT (getT g i) (getT g j) = true) => refsL_length h
    obtain ⟨gb, go, ip, im, io, rfl, hat, hof⟩ := Hs.out i hi
    obtain ⟨_, _, jp, jm, jo, e, hat2, hof2⟩ := Hs.out j hj
    cases e
    rw [← getT_lt hi] at hat hof
    rw [← getT_lt hj] at hat2 hof2
    have hfi := HW.out.fine (getT_mem hi)
    have hfj := HW.out.fine (getT_mem hj)
    have hri := fun w' (hx : Ext w w') => rrefs_any w' g.length (getT g i) ip im io (hof.mono hx) hfi
    have hrj := fun w' (hx : Ext w w') => rrefs_any w' g.length (getT g j) jp jm jo (hof2.mono hx) hfj
    have hgr := fun w' (hx : Ext w w') => ragree_any w' (getT g i) (getT g j) ip im io jp jm jo (Hty.out i hi) (Hty.out j hj) (hof.mono hx) (hof2.mono hx)
    have hli := hfi.refs_le
    obtain ⟨P1, p1, e1⟩ := hof.parts.len
    obtain ⟨P2, p2, e2⟩ := hof.methods.len
    obtain ⟨P3, p3, e3⟩ := hof.overs.len
    subst e1 e2 e3
    obtain ⟨Q1, q1, e1⟩ := hof2.parts.len
    obtain ⟨Q2, q2, e2⟩ := hof2.methods.len
    obtain ⟨Q3, q3, e3⟩ := hof2.overs.len
    subst e1 e2 e3
    unfold tyV at hri hrj hgr
    clear hfi hfj hof hof2 hab hE Hno Hck' Hty HW Hs Hp a0 a1 b0 b1
    generalize refsL (getT g i) = ri at *
    generalize refsL (getT g j) = rj at *
    generalize getT g i = s at *
    generalize getT g j = t at *
    generalize agreeT s t = ag at *
    have Hri := Lib.hid hri
    have Hrj := Lib.hid hrj
    have Hgr := Lib.hid hgr
    have Hck := Lib.hid hck
    have Hno3 := Lib.hid hno3
    have Hno4 := Lib.hid hno4
    have Hyes2 := Lib.hid hyes2
    have Hlen := Lib.hid hlen
    have Hat := Lib.hid hat
    have Hat2 := Lib.hid hat2
    clear hri hrj hgr hck hno3 hno4 hyes2 hlen hat hat2
    have j0 : (0 : Int) ≤ (i : Int) := by omega
    have j1 : (i : Int) < (g.length : Int) := by omega
    have j2 : (0 : Int) ≤ (j : Int) := by omega
    have j3 : (j : Int) < (g.length : Int) := by omega
    have HS := Lib.hid (show ∀ w', Ext wr w' → w'.cell? ⟨gb, go + i * 10, none⟩ = some (.int .u8 s.kind) ∧ w'.cell? ⟨gb, go + i * 10 + 1, none⟩ = some (.int .i64 s.low) ∧ w'.cell? ⟨gb, go + i * 10 + 2, none⟩ = some (.int .i64 s.high) ∧ w'.cell? ⟨gb, go + i * 10 + 3, none⟩ = some (.bool s.branded) ∧ w'.cell? ⟨gb, go + i * 10 + 4, none⟩ = some (.string s.brand) ∧ w'.cell? ⟨gb, go + i * 10 + 5, none⟩ = some (.string s.opaq) ∧ w'.cell? ⟨gb, go + i * 10 + 6, none⟩ = some (.int .i64 s.super) ∧ w'.cell? ⟨gb, go + i * 10 + 7, none⟩ = some (.slice P1 s.parts.length p1) ∧ w'.cell? ⟨gb, go + i * 10 + 8, none⟩ = some (.slice P2 s.methods.length p2) ∧ w'.cell? ⟨gb, go + i * 10 + 9, none⟩ = some (.slice P3 s.overs.length p3) ∧ w'.cell? ⟨gb, go + j * 10, none⟩ = some (.int .u8 t.kind) ∧ w'.cell? ⟨gb, go + j * 10 + 1, none⟩ = some (.int .i64 t.low) ∧ w'.cell? ⟨gb, go + j * 10 + 2, none⟩ = some (.int .i64 t.high) ∧ w'.cell? ⟨gb, go + j * 10 + 3, none⟩ = some (.bool t.branded) ∧ w'.cell? ⟨gb, go + j * 10 + 4, none⟩ = some (.string t.brand) ∧ w'.cell? ⟨gb, go + j * 10 + 5, none⟩ = some (.string t.opaq) ∧ w'.cell? ⟨gb, go + j * 10 + 6, none⟩ = some (.int .i64 t.super) ∧ w'.cell? ⟨gb, go + j * 10 + 7, none⟩ = some (.slice Q1 t.parts.length q1) ∧ w'.cell? ⟨gb, go + j * 10 + 8, none⟩ = some (.slice Q2 t.methods.length q2) ∧ w'.cell? ⟨gb, go + j * 10 + 9, none⟩ = some (.slice Q3 t.overs.length q3) from fun w' h => by
     obtain ⟨c0, c1, c2, c3, c4, c5, c6, c7, c8, c9⟩ := Hat.out.mono (Hx.out.trans h)
     obtain ⟨d0, d1, d2, d3, d4, d5, d6, d7, d8, d9⟩ := Hat2.out.mono (Hx.out.trans h)
     exact ⟨c0, c1, c2, c3, c4, c5, c6, c7, c8, c9, d0, d1, d2, d3, d4, d5, d6, d7, d8, d9⟩)
    cases ag with
    | false =>
     have Hv := Lib.hid (Hno3.out rfl)
     go_wp2_with fail
     go_region_held3 (fun w' => w'.cell? ⟨gb, go + i * 10, none⟩ = some (.int .u8 s.kind) ∧ w'.cell? ⟨gb, go + i * 10 + 1, none⟩ = some (.int .i64 s.low) ∧ w'.cell? ⟨gb, go + i * 10 + 2, none⟩ = some (.int .i64 s.high) ∧ w'.cell? ⟨gb, go + i * 10 + 3, none⟩ = some (.bool s.branded) ∧ w'.cell? ⟨gb, go + i * 10 + 4, none⟩ = some (.string s.brand) ∧ w'.cell? ⟨gb, go + i * 10 + 5, none⟩ = some (.string s.opaq) ∧ w'.cell? ⟨gb, go + i * 10 + 6, none⟩ = some (.int .i64 s.super) ∧ w'.cell? ⟨gb, go + i * 10 + 7, none⟩ = some (.slice P1 s.parts.length p1) ∧ w'.cell? ⟨gb, go + i * 10 + 8, none⟩ = some (.slice P2 s.methods.length p2) ∧ w'.cell? ⟨gb, go + i * 10 + 9, none⟩ = some (.slice P3 s.overs.length p3) ∧ w'.cell? ⟨gb, go + j * 10, none⟩ = some (.int .u8 t.kind) ∧ w'.cell? ⟨gb, go + j * 10 + 1, none⟩ = some (.int .i64 t.low) ∧ w'.cell? ⟨gb, go + j * 10 + 2, none⟩ = some (.int .i64 t.high) ∧ w'.cell? ⟨gb, go + j * 10 + 3, none⟩ = some (.bool t.branded) ∧ w'.cell? ⟨gb, go + j * 10 + 4, none⟩ = some (.string t.brand) ∧ w'.cell? ⟨gb, go + j * 10 + 5, none⟩ = some (.string t.opaq) ∧ w'.cell? ⟨gb, go + j * 10 + 6, none⟩ = some (.int .i64 t.super) ∧ w'.cell? ⟨gb, go + j * 10 + 7, none⟩ = some (.slice Q1 t.parts.length q1) ∧ w'.cell? ⟨gb, go + j * 10 + 8, none⟩ = some (.slice Q2 t.methods.length q2) ∧ w'.cell? ⟨gb, go + j * 10 + 9, none⟩ = some (.slice Q3 t.overs.length q3))
      (first | exact HS.out _ hxb | exact HS.out _ hxa | (refine HS.out _ ?_; with_reducible exact (Ext.refl _).drew) | (refine HS.out _ ?_; with_reducible exact ((Ext.refl _).alloc _).drew))
      (first | (go_at_call 57; refine (Hck.out _ Hx.out).mono ?_; rintro e wa ⟨rfl, hxa0⟩; have hxa := ((Ext.refl wr).alloc _).drew.trans hxa0; clear hxa0) | (go_at_call 41; refine (Hgr.out _ (Hx.out.trans hxa)).mono ?_; rintro e wb ⟨rfl, hxb0⟩; have hxb := hxa.trans hxb0; clear hxb0))
     all_goals
      have Hxb := Lib.hid (Hx.out.trans hxb)
      clear hxb
      go_wp2_with fail
      go_ret2
      rw [Hv.out]
      exact ⟨rfl, Hxb.out⟩
    | true =>
     go_wp2_with fail
     go_region_held3 (fun w' => w'.cell? ⟨gb, go + i * 10, none⟩ = some (.int .u8 s.kind) ∧ w'.cell? ⟨gb, go + i * 10 + 1, none⟩ = some (.int .i64 s.low) ∧ w'.cell? ⟨gb, go + i * 10 + 2, none⟩ = some (.int .i64 s.high) ∧ w'.cell? ⟨gb, go + i * 10 + 3, none⟩ = some (.bool s.branded) ∧ w'.cell? ⟨gb, go + i * 10 + 4, none⟩ = some (.string s.brand) ∧ w'.cell? ⟨gb, go + i * 10 + 5, none⟩ = some (.string s.opaq) ∧ w'.cell? ⟨gb, go + i * 10 + 6, none⟩ = some (.int .i64 s.super) ∧ w'.cell? ⟨gb, go + i * 10 + 7, none⟩ = some (.slice P1 s.parts.length p1) ∧ w'.cell? ⟨gb, go + i * 10 + 8, none⟩ = some (.slice P2 s.methods.length p2) ∧ w'.cell? ⟨gb, go + i * 10 + 9, none⟩ = some (.slice P3 s.overs.length p3) ∧ w'.cell? ⟨gb, go + j * 10, none⟩ = some (.int .u8 t.kind) ∧ w'.cell? ⟨gb, go + j * 10 + 1, none⟩ = some (.int .i64 t.low) ∧ w'.cell? ⟨gb, go + j * 10 + 2, none⟩ = some (.int .i64 t.high) ∧ w'.cell? ⟨gb, go + j * 10 + 3, none⟩ = some (.bool t.branded) ∧ w'.cell? ⟨gb, go + j * 10 + 4, none⟩ = some (.string t.brand) ∧ w'.cell? ⟨gb, go + j * 10 + 5, none⟩ = some (.string t.opaq) ∧ w'.cell? ⟨gb, go + j * 10 + 6, none⟩ = some (.int .i64 t.super) ∧ w'.cell? ⟨gb, go + j * 10 + 7, none⟩ = some (.slice Q1 t.parts.length q1) ∧ w'.cell? ⟨gb, go + j * 10 + 8, none⟩ = some (.slice Q2 t.methods.length q2) ∧ w'.cell? ⟨gb, go + j * 10 + 9, none⟩ = some (.slice Q3 t.overs.length q3))
      (first | exact HS.out _ hxb | exact HS.out _ hxa | (refine HS.out _ ?_; with_reducible exact (Ext.refl _).drew) | (refine HS.out _ ?_; with_reducible exact ((Ext.refl _).alloc _).drew))
      (first | (go_at_call 57; refine (Hck.out _ Hx.out).mono ?_; rintro e wa ⟨rfl, hxa0⟩; have hxa := ((Ext.refl wr).alloc _).drew.trans hxa0; clear hxa0) | (go_at_call 41; refine (Hgr.out _ (Hx.out.trans hxa)).mono ?_; rintro e wb ⟨rfl, hxb0⟩; have hxb := hxa.trans hxb0; clear hxb0))
     all_goals
      have Hx7 := Lib.hid (Hx.out.trans hxb)
      clear hxb hxa
      obtain ⟨c0, c1, c2, c3, c4, c5, c6, c7, c8, c9⟩ := Hat.out.mono Hx7.out
      go_wp2_with fail
      refine (Hri.out _ Hx7.out).mono ?_
      rintro e w8 ⟨v8, rfl, hv8, hx8⟩
      obtain ⟨A8, q8, e8⟩ := hv8.any.len
      subst e8
      have Hv8 := Lib.hid hv8.any
      have Hx8 := Lib.hid (Hx7.out.trans hx8)
      clear c0 c1 c2 c3 c4 c5 c6 c7 c8 c9 hv8 hx8
      obtain ⟨c0, c1, c2, c3, c4, c5, c6, c7, c8, c9⟩ := Hat2.out.mono Hx8.out
      go_wp2_with fail
      refine (Hrj.out _ Hx8.out).mono ?_
      rintro e w9 ⟨v9, rfl, hv9, hx9⟩
      obtain ⟨A9, q9, e9⟩ := hv9.any.len
      rw [← Hlen.out (by simp)] at e9
      subst e9
      have Hv9 := Lib.hid hv9.any
      replace Hv8 := Lib.hid (Hv8.out.mono hx9)
      have Hx9 := Lib.hid (Hx8.out.trans hx9)
      clear c0 c1 c2 c3 c4 c5 c6 c7 c8 c9 hv9 hx9
      go_wp2_with fail
      obtain ⟨wo, rfl⟩ : ∃ wo : World, wo = wr := ⟨_, rfl⟩
      go_loopw [12] (fun u wq => ∃ n : Nat, n ≤ ri.length ∧ u = .int .i64 n ∧ Hid (Ext w9 wq) ∧ Hid (∀ m (h1 : m < ri.length) (h2 : m < rj.length), m < n → (ri[m], rj[m]) ∈ l)) (fun u _ => ri.length - (intOf u).toNat)
      case atStart => exact ⟨0, by omega, rfl, Lib.hid (Ext.refl _), Lib.hid (fun m _ _ h => by omega)⟩
      case round =>
       obtain ⟨n, hn2, rfl, Hxq, Hn⟩ := hrel
       by_cases hnl : n < ri.length
       ·obtain ⟨Ax, cx, ex, xs⟩ := Hv8.out.int
        simp only [Value.slice.injEq] at ex
        obtain ⟨rfl, -, rfl⟩ := ex
        obtain ⟨Ay, cy, ey, ys⟩ := Hv9.out.int
        simp only [Value.slice.injEq] at ey
        obtain ⟨rfl, -, rfl⟩ := ey
        have hnl2 : n < rj.length := by have := Hlen.out (by simp); omega
        obtain ⟨xb, xo, rfl, x0⟩ := xs n hnl
        obtain ⟨yb, yo, rfl, y0⟩ := ys n hnl2
        replace x0 := Hxq.out.cell x0
        replace y0 := Hxq.out.cell y0
        have lx := cell_lt x0
        have ly := cell_lt y0
        have i2 : (0 : Int) ≤ (n : Int) := by omega
        have i3 : (n : Int) < (ri.length : Int) := by omega
        have Hn4 := Lib.hid (Hno4.out n hnl hnl2)
        have Hny := Lib.hid (show (ri[n], rj[n]) ∈ l → ∀ m (h1 : m < ri.length) (h2 : m < rj.length), m < n + 1 → (ri[m], rj[m]) ∈ l from fun h m h1 h2 hm => by
         by_cases e : m = n
         ·subst e; exact h
         ·exact Hn.out m h1 h2 (by omega))
        clear xs ys
        generalize ri[n] = a at *
        generalize rj[n] = c at *
        clear hnl2
        have hpd := fun q => Hpd'.out a c (wr.drewN q) ((Hx9.out.trans Hxq.out).drewN q)
        by_cases hin : (a, c) ∈ l
        ·have Hy2 := Lib.hid (Hny.out hin)
         rw [decide_eq_true hin] at hpd
         have Hpd := Lib.hid hpd
         clear hpd hin
         go_wp2_with fail
         go_quiet ((go_at_call 58; exact Calls.quiet_of_same (Hpd.out _)))
         go_wp2_with fail
         go_roundw
         case rel => exact ⟨n + 1, by omega, by go_num, Lib.hid (Hxq.out.drewN _), Hy2⟩
         case measure => simp [intOf]; omega
        ·have Hv := Lib.hid (Hn4.out hin)
         rw [decide_eq_false hin] at hpd
         have Hpd := Lib.hid hpd
         clear hpd hin
         go_wp2_with fail
         go_quiet ((go_at_call 58; exact Calls.quiet_of_same (Hpd.out _)))
         go_wp2_with fail
         go_ret2
         rw [Hv.out]
         exact ⟨rfl, (Hx9.out.trans Hxq.out).drewN _⟩
       ·have i3 : ¬ (n : Int) < (ri.length : Int) := by omega
        have hpb := Hyes2.out (by simp) (fun m h1 h2 => Hn.out m h1 h2 (by omega))
        have Hpb := Lib.hid (Hyes.out hpb)
        clear hpb Hn
        go_wp2_with fail
        go_roundw
        case rel => exact ⟨k + 1, by omega, by go_num, Lib.hid (Hx9.out.trans Hxq.out), Hpb⟩
        case measure => simp [intOf]; omega
  ·have hkl : k = l.length := by omega
   subst hkl
   have i1 : ¬ (l.length : Int) < (l.length : Int) := by omega
   have hv : pairsB g l = true := List.all_eq_true.2 fun p hp => by
    obtain ⟨q, hq, rfl⟩ := List.mem_iff_getElem.1 hp
    exact Hin.out q hq hq
   have Hv := Lib.hid hv
   clear hv Hin
   go_wp2_with fail
   go_ret2
   rw [Hv.out]
   exact ⟨rfl, Hx.out⟩
end Go.Proofs.YtldnjnnhfeobdaaGreatDoor
/- Contract: CheckEqual. Conditions: a tidy graph, at most 2^20 pairs. -/
namespace Go.Proofs.YtldnjnnhfeobdaaGreatDoor
open Go.RowKit Go.Shelf
set_option maxRecDepth 100000 in
set_option maxHeartbeats 16000000 in
theorem checkEqual_any (w : World) (gv lv : Value) (g : Graph) (l : List (Int × Int)) (hg : Sl tyE w gv g) (hT : Tidy g) (hG : Glob w) (hlv : Sl pairE w lv l) (hln : l.length ≤ 1048576) :
  Calls Tryz.prog 38 #[gv, lv] w (Ret w (.tuple #[.bool (chkEqB g l), .int .i64 (chkEqE g l)])) := by
 have hop := opened_any w gv (.slice none 0 0) g [] hg hT hG (Sl.nil _ _) (by simp)
 have hn := hT.len
 have hag := fun (w' : World) (hx : Ext w w') (i j : Nat) (hi : i < g.length) (hj : j < g.length) => agree_any w' gv g i j (hg.mono hx) hT hi hj
 have hls := fun (hW : WF g) (w' : World) (hx : Ext w w') (i : Nat) (hi : i < g.length) => list_any w' gv g i g.length (hg.mono hx) hi hn (hW.fine (getT_mem hi))
 obtain ⟨A, cap, rfl⟩ := hg.len
 obtain ⟨B, cl, rfl, hp⟩ := hlv.pair
 by_cases h0 : errG g [] = 0
 case neg =>
  have e1 : chkEqB g l = false := by unfold chkEqB; rw [if_neg (fun h => h0 h.1)]
  have e2 : chkEqE g l = errG g [] := by unfold chkEqE; rw [if_neg h0]
  rw [e1, e2]
  have hne : (errG g [] != 0) = true := by simpa using h0
  generalize errG g [] = er at hop hne ⊢
  have Hop := Lib.hid hop
  clear hop hag hls hg hT hG h0 hp hlv e1 e2
  go_enter Tryz.func38, Tryz.ntmps38
  go_wp2_with fail
  refine Hop.out.mono ?_
  rintro e w1 ⟨rfl, hx1⟩
  go_wp2_with fail
  go_ret2
  exact ⟨rfl, hx1.alloc _⟩
 rw [h0] at hop
 by_cases h2 : 2000 < l.length
 ·have e1 : chkEqB g l = false := by unfold chkEqB; rw [if_neg (fun h => by omega)]
  have e2 : chkEqE g l = 2 := by unfold chkEqE; rw [if_pos h0, if_pos h2]
  rw [e1, e2]
  have q : (2000 : Int) < (l.length : Int) := by omega
  have Hop := Lib.hid hop
  clear hop hag hls hg hT hG h0 hp hlv e1 e2
  go_enter Tryz.func38, Tryz.ntmps38
  go_wp2_with fail
  refine Hop.out.mono ?_
  rintro e w1 ⟨rfl, hx1⟩
  go_wp2_with fail
  go_ret2
  exact ⟨rfl, hx1.alloc _⟩
 have e1 : chkEqB g l = pairsB g l := by unfold chkEqB; rw [if_pos ⟨h0, by omega⟩]
 have e2 : chkEqE g l = 0 := by unfold chkEqE; rw [if_pos h0, if_neg h2]
 rw [e1, e2]
 have q : ¬ (2000 : Int) < (l.length : Int) := by omega
 obtain ⟨hW, _⟩ := errG_zero h0
 have Hop := Lib.hid hop
 have Hag := Lib.hid hag
 have Hls := Lib.hid (hls hW)
 have Hp := Lib.hid hp
 have HW := Lib.hid hW
 have hmm := @run_makeMap Tryz.prog
 clear hop hag hls hg hT hG h0 hp hlv e1 e2 h2 hW
 go_enter Tryz.func38, Tryz.ntmps38
 go_wp2_with fail
 refine Hop.out.mono ?_
 rintro e w1 ⟨rfl, hx1⟩
 have Hst : Hid (CeSt w w1.heap.size (w1.heap.size + 1) (.slice A g.length cap) (prsF (l.take 0)) ((w1.alloc (.cells #[.slice A g.length cap] 77)).alloc (.map #[] 0))) := by
  have hmd := MapS.made pairK (w1.alloc (.cells #[.slice A g.length cap] 77))
  rw [World.size_alloc] at hmd
  rw [List.take_zero, prsF_nil]
  have := hx1.size
  exact Lib.hid ⟨(hx1.alloc _).alloc _, ((Ext.refl _).alloc _).heap (heap_alloc_self w1 (.cells #[.slice A g.length cap] 77)), hmd, by omega, by omega⟩
 clear hx1
 go_wp2_with fail
 generalize (w1.alloc (.cells #[.slice A g.length cap] 77)).alloc (.map #[] 0) = w2 at Hst ⊢
 generalize w1.heap.size = bg at Hst ⊢
 clear hmm q
 go_loopw [29] (fun u wr => ∃ k : Nat, k ≤ l.length ∧ u = .int .i64 k ∧ Hid (CeSt w bg (bg + 1) (.slice A g.length cap) (prsF (l.take k)) wr) ∧ Hid (∀ i (h : i < l.length), i < k → inG g l[i].1 = true ∧ inG g l[i].2 = true)) (fun u _ => l.length - (intOf u).toNat)
 case atStart => exact ⟨0, by omega, rfl, Hst, Lib.hid (fun i _ h => by omega)⟩
 case round =>
  clear Hst
  obtain ⟨k, hk, rfl, Hst, Hin⟩ := hrel
  have cg := heap_cell Hst.out.box 0 _ rfl
  have lg := cell_lt cg
  by_cases hlt : k < l.length
  ·obtain ⟨b, off, rfl, p0, p1⟩ := Hp.out k hlt
   replace p0 := Hst.out.ext.cell p0
   replace p1 := Hst.out.ext.cell p1
   have lp := cell_lt p0
   have i0 : (0 : Int) ≤ (k : Int) := by omega
   have i1 : (k : Int) < (l.length : Int) := by omega
   have hm : l[k] ∈ l := List.getElem_mem hlt
   have htk : l.take (k + 1) = l.take k ++ [l[k]] := List.take_succ_eq_append_getElem hlt
   have Hyes := Lib.hid (fun (h : inG g l[k].1 = true ∧ inG g l[k].2 = true) i (h1 : i < l.length) (hik : i < k + 1) => if e : i = k then (by subst e; exact h : inG g l[i].1 = true ∧ inG g l[i].2 = true) else Hin.out i h1 (by omega))
   generalize l[k] = p at *
   have Hno := Lib.hid (fun (h : pairB g l p = false) => pairs_no hm h)
   have Htk := Lib.hid htk
   have hh1 := fun w => has_any w A g.length cap p.1 hn
   have hh2 := fun w => has_any w A g.length cap p.2 hn
   rw [hasB_inG] at hh1 hh2
   have Hh1 := Lib.hid hh1
   have Hh2 := Lib.hid hh2
   obtain ⟨x, y⟩ := p
   simp only at p0 p1 Hh1 Hh2 Hyes Hno
   clear hh1 hh2 htk hm Hin
   cases hx : inG g x with
   | false =>
    as_aux_lemma =>
     rw [hx] at Hh1
     have Hv := Lib.hid (Hno.out (pair_no1 hx))
     go_wp2_with fail
     refine (Hh1.out _).mono ?_
     rintro e w3 ⟨rfl, hx3⟩
     have hx4 := (Hst.out.ext.alloc _).trans hx3
     clear hx3
     go_wp2_with fail
     go_ret2
     rw [Hv.out]
     exact ⟨rfl, hx4⟩
   | true =>
    rw [hx] at Hh1
    cases hy : inG g y with
    | false =>
     as_aux_lemma =>
      rw [hy] at Hh2
      have Hv := Lib.hid (Hno.out (pair_no2 hy))
      have hb := heap_alloc_self wr (.cells #[.int .i64 x, .int .i64 y] 61)
      go_wp2_with fail
      refine (Hh1.out _).mono ?_
      rintro e w3 ⟨rfl, hx3⟩
      have cg3 := hx3.cell (((Ext.refl wr).alloc _).cell cg)
      have cb3 := heap_cell (hx3.heap hb) 1 _ rfl
      have lg3 := cell_lt cg3
      have lb3 := cell_lt cb3
      have hx4 := (Hst.out.ext.alloc _).trans hx3
      clear hx3
      go_wp2_with fail
      refine (Hh2.out _).mono ?_
      rintro e w4 ⟨rfl, hx5⟩
      go_wp2_with fail
      go_ret2
      rw [Hv.out]
      exact ⟨rfl, hx4.trans hx5⟩
    | true =>
     as_aux_lemma =>
      rw [hy] at Hh2
      have Hy := Lib.hid (Hyes.out ⟨hx, hy⟩)
      have hb := heap_alloc_self wr (.cells #[.int .i64 x, .int .i64 y] 61)
      go_wp2_with fail
      refine (Hh1.out _).mono ?_
      rintro e w3 ⟨rfl, hx3⟩
      have cg3 := hx3.cell (((Ext.refl wr).alloc _).cell cg)
      have cb3 := heap_cell (hx3.heap hb) 1 _ rfl
      have lg3 := cell_lt cg3
      have lb3 := cell_lt cb3
      have hx4 := ((Ext.refl wr).alloc (.cells #[.int .i64 x, .int .i64 y] 61)).trans hx3
      have hb3 := hx3.heap hb
      clear hx3
      go_wp2_with fail
      refine (Hh2.out _).mono ?_
      rintro e w4 ⟨rfl, hx5⟩
      have c40 := heap_cell (hx5.heap hb3) 0 _ rfl
      have c41 := heap_cell (hx5.heap hb3) 1 _ rfl
      have l40 := cell_lt c40
      have Hst4 := Lib.hid (Hst.out.later (hx4.trans hx5))
      clear hx4 hx5 cg3 cb3 lg3 lb3 hb3 hb
      go_wp2_with (at_mapUpdate; refine wpList_update_S pairK (by rfl) _ _ _ 80 4 (by rfl) Tryz.underlying80 _ (prsF (l.take k)) (x, y) (by rfl) (by rfl) Hst4.out.map ?_; intro w5 hm5 hg5)
      have hst5 : CeSt w bg (bg + 1) (.slice A g.length cap) (prsF (l.take (k + 1))) w5 := Hst4.out.put hg5 (by rw [Htk.out, ← prsF_put]; exact hm5)
      have Hst5 := Lib.hid hst5
      clear hst5 hm5 hg5 Hst4
      go_wp2_with fail
      go_roundw
      case rel => exact ⟨k + 1, by omega, by go_num, Hst5, Hy⟩
      case measure => simp [intOf]; omega
  ·have hkl : k = l.length := by omega
   subst hkl
   rw [List.take_of_length_le (Nat.le_refl _)] at Hst
   have i1 : ¬ (l.length : Int) < (l.length : Int) := by omega
   clear hlt hk
   go_wp2_with (at_range; refine wpList_range_S pairK (fun q => pairB g l q = true) (by rfl) _ 80 4 (by rfl) Tryz.underlying80 _ (prsF l) (by rfl) Hst.out.map ?_; intro w3 cnt hrg hx3)
   have Hst3 := Lib.hid (Hst.out.later hx3)
   have Hrg := Lib.hid hrg
   have Hr : Hid (bg < wr.heap.size ∧ w.heap.size ≤ wr.heap.size) := Lib.hid ⟨(Array.getElem?_eq_some_iff.1 Hst.out.box).1, Hst.out.ext.size⟩
   clear hx3 hrg Hst cg lg i1
   generalize wr.heap.size = r at *
   obtain ⟨wo, rfl⟩ : ∃ wo : World, wo = wr := ⟨_, rfl⟩
   go_loopw [11] (fun u wq => Hid (CeSt w bg (bg + 1) (.slice A g.length cap) (prsF l) wq) ∧ ∃ cnt, Hid (RngS pairK wq (bg + 1) r (prsF l) (fun q => pairB g l q = true) cnt)) (fun _ wq => wq.rangeLeft (bg + 1) r)
   case atStart => exact ⟨Hst3, cnt, Hrg⟩
   case round =>
    clear Hst3 Hrg
    obtain ⟨Hst, cnt, Hrg⟩ := hrel
    go_wp2_with (at_next; refine wpList_next_S pairK (fun q => pairB g l q = true) (by rfl) _ (by rfl) (bg + 1) r (prsF l) cnt (by rfl) Hrg.out ?done ?more)
    case done =>
     intro hD
     have hv : pairsB g l = true := List.all_eq_true.2 fun p hp => hD p.1 p.2 (.bool true) (by unfold prsF; rw [if_pos hp])
     have Hv := Lib.hid hv
     clear hv hD
     go_wp2_with fail
     go_ret2
     rw [Hv.out]
     exact ⟨rfl, Hst.out.ext⟩
    case more =>
     intro px py v w4 cnt4 hpv hr4 hlt4 hg4 hen
     obtain ⟨p, hpe⟩ : ∃ p : Int × Int, p = (px, py) := ⟨_, rfl⟩
     rw [← hpe] at hpv
     replace hr4 : RngS pairK w4 (bg + 1) r (prsF l) (fun k' => pairB g l k' = true ∨ k' = p) cnt4 := by rw [hpe]; exact hr4
     replace hen : (Instr.entry (.pointer (some ⟨r, 0, none⟩))).run Tryz.prog w4 = .ok (.tuple #[.agg #[.int .i64 p.1, .int .i64 p.2], v]) w4 := by rw [hpe]; exact hen
     rw [show pairK.enc (px, py) = .agg #[.int .i64 p.1, .int .i64 p.2] by rw [hpe]; rfl]
     clear hpe px py
     have hpl := prsF_some hpv
     have hst4 : CeSt w bg (bg + 1) (.slice A g.length cap) (prsF l) w4 := ⟨Below.grown Hst.out.ext hg4 Hst.out.ext.size (fun k hk => by cases hk; exact Hr.out.2), (hg4.block bg (Array.getElem?_eq_some_iff.1 Hst.out.box).1 (by have := Hr.out.1; simp; omega)).trans Hst.out.box, hr4.mapS, Hst.out.nb⟩
     obtain ⟨q, hq, rfl⟩ := List.mem_iff_getElem.1 hpl
     obtain ⟨g1, g2⟩ := Hin.out q hq hq
     have hno := fun (h : pairB g l l[q] = false) => pairs_no hpl h
     have hno3 := fun h => hno (pair_no3 h)
     have hno4 : ∀ (k : Nat) (h1 : k < (refsL (getT g l[q].1.toNat)).length) (h2 : k < (refsL (getT g l[q].2.toNat)).length), ((refsL (getT g l[q].1.toNat))[k], (refsL (getT g l[q].2.toNat))[k]) ∉ l → pairsB g l = false := fun k h1 h2 h => hno (pair_no4 h1 h2 h)
     have hyes := @pair_yes g l l[q] g1 g2
     generalize l[q] = p at *
     obtain ⟨x, y⟩ := p
     rw [inG_iff] at g1 g2
     simp only at g1 g2 hno3 hno4 hyes
     obtain ⟨i, rfl⟩ := Int.eq_ofNat_of_zero_le g1.1
     obtain ⟨j, rfl⟩ := Int.eq_ofNat_of_zero_le g2.1
     have hi : i < g.length := by omega
     have hj : j < g.length := by omega
     rw [Int.toNat_natCast, Int.toNat_natCast] at hno3 hno4 hyes
     have hen' : (Instr.entry (.pointer (some ⟨r, 0, none⟩))).run Tryz.prog w4 = .ok (.tuple #[.agg #[.int .i64 (i : Int), .int .i64 (j : Int)], v]) w4 := hen
     have hb4 := heap_alloc_self w4 (.cells #[.int .i64 (i : Int), .int .i64 (j : Int)] 61)
     have cg4 := heap_cell (((Ext.refl w4).alloc (.cells #[.int .i64 (i : Int), .int .i64 (j : Int)] 61)).heap hst4.box) 0 _ rfl
     have lg4 := cell_lt cg4
     have Hno3 := Lib.hid hno3
     have Hno4 := Lib.hid hno4
     have Hyes := Lib.hid hyes
     have Hst4 := Lib.hid hst4
     have Hr4 := Lib.hid hr4
     have Hlt4 := Lib.hid hlt4
     have HL := Lib.hid Hrg.out.left
     have Hb4 := Lib.hid hb4
     clear hno hno3 hno4 hyes hpl hst4 hr4 hlt4 hg4 hen g1 g2 hpv hb4
     go_wp2_with fail
     cases ha : agN g i j with
     | false =>
      as_aux_lemma =>
       have Hv := Lib.hid (Hno3.out ha)
       refine (Hag.out _ (Hst4.out.ext.alloc _) i j hi hj).mono ?_
       rintro e w5 ⟨rfl, hx5⟩
       have hx6 := (Hst4.out.ext.alloc _).trans hx5
       rw [ha]
       clear hx5 cg4 lg4
       go_wp2_with fail
       go_ret2
       rw [Hv.out]
       exact ⟨rfl, hx6⟩
     | true =>
      as_aux_lemma =>
       have Ha := Lib.hid ha
       refine (Hag.out _ (Hst4.out.ext.alloc _) i j hi hj).mono ?_
       rintro e w5 ⟨rfl, hx5⟩
       have hx45 := ((Ext.refl w4).alloc (.cells #[.int .i64 (i : Int), .int .i64 (j : Int)] 61)).trans hx5
       rw [ha]
       have hb5 := hx5.heap Hb4.out
       have cb0 := heap_cell hb5 0 _ rfl
       have cb1 := heap_cell hb5 1 _ rfl
       have lb0 := cell_lt cb0
       have cg5 := heap_cell (hx45.heap Hst4.out.box) 0 _ rfl
       have lg5 := cell_lt cg5
       have Hb5 := Lib.hid hb5
       have Hx45 := Lib.hid hx45
       clear hx5 hx45 hb5 cg4 lg4 Hno3 ha
       go_wp2_with fail
       clear cb0 cb1 lb0 cg5 lg5
       refine (Hls.out _ (Hst4.out.ext.trans Hx45.out) j hj).mono ?_
       rintro e w6 ⟨v6, rfl, hv6, hx6⟩
       have hx46 := Hx45.out.trans hx6
       have hb6 := hx6.heap Hb5.out
       have cb0 := heap_cell hb6 0 _ rfl
       have lb0 := cell_lt cb0
       have cg6 := heap_cell (hx46.heap Hst4.out.box) 0 _ rfl
       have lg6 := cell_lt cg6
       have Hx46 := Lib.hid hx46
       obtain ⟨A6, c6, e6⟩ := hv6.any.len
       subst e6
       have Hv6 := Lib.hid hv6.any
       clear hx6 hx46 hb6 hv6 Hb5 Hx45
       go_wp2_with fail
       clear cb0 lb0 cg6 lg6
       refine (Hls.out _ (Hst4.out.ext.trans Hx46.out) i hi).mono ?_
       rintro e w7 ⟨v7, rfl, hv7, hx7⟩
       obtain ⟨A7, c7, e7⟩ := hv7.any.len
       subst e7
       have Hv7 := Lib.hid hv7.any
       replace Hv6 := Lib.hid (Hv6.out.mono hx7)
       have Hx47 := Lib.hid (Hx46.out.trans hx7)
       clear hx7 hv7 Hx46
       have hlen : (refsL (getT g i)).length = (refsL (getT g j)).length := refsL_length Ha.out
       have Hlen := Lib.hid hlen
       have hrl : (refsL (getT g i)).length ≤ 65 := (HW.out.fine (getT_mem hi)).refs_le
       clear hlen
       go_wp2_with fail
       obtain ⟨wo2, rfl⟩ : ∃ wo2 : World, wo2 = wr := ⟨_, rfl⟩
       go_loopw [70] (fun u wq => ∃ n : Nat, n ≤ (refsL (getT g i)).length ∧ u = .int .i64 n ∧ Hid (Ext w7 wq) ∧ Hid (∀ m (h1 : m < (refsL (getT g i)).length) (h2 : m < (refsL (getT g j)).length), m < n → ((refsL (getT g i))[m], (refsL (getT g j))[m]) ∈ l)) (fun u _ => (refsL (getT g i)).length - (intOf u).toNat)
       case atStart => exact ⟨0, by omega, rfl, Lib.hid (Ext.refl _), Lib.hid (fun m _ _ h => by omega)⟩
       case round =>
        obtain ⟨n, hn2, rfl, Hx8, Hn⟩ := hrel
        by_cases hnl : n < (refsL (getT g i)).length
        ·have hnl2 : n < (refsL (getT g j)).length := by have := Hlen.out; omega
         obtain ⟨Ax, cx, ex, xs⟩ := Hv7.out.int
         simp only [Value.slice.injEq] at ex
         obtain ⟨rfl, -, rfl⟩ := ex
         obtain ⟨Ay, cy, ey, ys⟩ := Hv6.out.int
         simp only [Value.slice.injEq] at ey
         obtain ⟨rfl, -, rfl⟩ := ey
         obtain ⟨xb, xo, rfl, x0⟩ := xs n hnl
         obtain ⟨yb, yo, rfl, y0⟩ := ys n hnl2
         replace x0 := Hx8.out.cell x0
         replace y0 := Hx8.out.cell y0
         have lx := cell_lt x0
         have ly := cell_lt y0
         have j0 : (0 : Int) ≤ (n : Int) := by omega
         have j1 : (n : Int) < ((refsL (getT g i)).length : Int) := by omega
         have j2 : (n : Int) < ((refsL (getT g j)).length : Int) := by omega
         have Hn4 := Lib.hid (Hno4.out n hnl hnl2)
         have Hnl := Lib.hid hnl
         have Hny := Lib.hid (fun (h' : ((refsL (getT g i))[n], (refsL (getT g j))[n]) ∈ l) m (h1 : m < (refsL (getT g i)).length) (h2 : m < (refsL (getT g j)).length) (hik : m < n + 1) => if e : m = n then (by subst e; exact h' : ((refsL (getT g i))[m], (refsL (getT g j))[m]) ∈ l) else Hn.out m h1 h2 (by omega))
         clear xs ys
         generalize (refsL (getT g i))[n] = a at *
         generalize (refsL (getT g j))[n] = b at *
         have Hmap := Lib.hid ((Hr4.out.mapS.ext (Hx47.out.trans Hx8.out)).mapF)
         by_cases hin : (a, b) ∈ l
         ·have Hy2 := Lib.hid (Hny.out hin)
          have Hin2 := Lib.hid hin
          clear hin
          go_wp2_with (at_lookup; refine wpList_lookup_F pairK (by rfl) _ _ 80 4 (by rfl) Tryz.underlying80 (.bool false) zeroBool _ (prsF l) (a, b) (by rfl) (by rfl) Hmap.out ?_; rw [prsF_getD, decide_eq_true Hin2.out])
          go_roundw
          case rel => exact ⟨n + 1, Hnl.out, by go_num, Hx8, Hy2⟩
          case measure =>
           have h1 := Hnl.out
           simp only [intOf]
           omega
         ·have Hv := Lib.hid (Hn4.out hin)
          have Hin2 := Lib.hid hin
          clear hin
          go_wp2_with (at_lookup; refine wpList_lookup_F pairK (by rfl) _ _ 80 4 (by rfl) Tryz.underlying80 (.bool false) zeroBool _ (prsF l) (a, b) (by rfl) (by rfl) Hmap.out ?_; rw [prsF_getD, decide_eq_false Hin2.out])
          go_ret2
          rw [Hv.out]
          exact ⟨rfl, Hst4.out.ext.trans (Hx47.out.trans Hx8.out)⟩
        ·have j1 : ¬ (n : Int) < ((refsL (getT g i)).length : Int) := by omega
         have hD := Hyes.out Ha.out hnl (fun m h1 h2 h3 => Hn.out m h1 h2 h3)
         have hrN := (Hr4.out.ext (Hx47.out.trans Hx8.out)).imp (fun k' (hk' : pairB g l k' = true ∨ k' = ((i : Int), (j : Int))) => by
          rcases hk' with hk' | rfl
          ·exact hk'
          ·exact hD)
         have HrN := Lib.hid hrN
         clear hD hrN Hn
         go_wp2_with fail
         go_roundw
         case rel => exact ⟨Lib.hid (Hst4.out.later (Hx47.out.trans Hx8.out)), cnt4, HrN⟩
         case measure => rw [HrN.out.left, HL.out]; exact Hlt4.out
end Go.Proofs.YtldnjnnhfeobdaaGreatDoor
/- The law TypesEqual returns true. Conditions: a tidy graph, at most 2^20 pairs. -/
namespace Go.Proofs.YtldnjnnhfeobdaaGreatDoor
open Go.RowKit Go.Shelf
set_option maxRecDepth 100000 in
set_option maxHeartbeats 16000000 in
theorem equal_law (w : World) (gv lv : Value) (g : Graph) (a b : Int) (l : List (Int × Int)) (hg : Sl tyE w gv g) (hT : Tidy g) (hG : Glob w) (hlv : Sl pairE w lv l) (hln : l.length ≤ 1048576) :
  Calls Tryz.prog 9 #[gv, .int .i64 a, .int .i64 b, lv] w (Ret w (.bool true)) := by
 have Hli := Lib.hid (light_any w gv g hg hT)
 have Hal := Lib.hid (fun w' (hx : Ext w w') => alive_any w' (hG.mono hx))
 have Heq := Lib.hid (fun w' (hx : Ext w w') => equal_any w' gv g a b (hg.mono hx) hT (hG.mono hx))
 have Hre := Lib.hid (fun w' (hx : Ext w w') => requal_any w' gv g a b (hg.mono hx) hT)
 have Hch := Lib.hid (fun w' (hx : Ext w w') => checkEqual_any w' gv lv g l (hg.mono hx) hT (hG.mono hx) (hlv.mono hx) hln)
 have Hrc := Lib.hid (fun w' (hx : Ext w w') => rcheckEqual_any w' gv lv g l (hg.mono hx) hT (hlv.mono hx) hln)
 obtain ⟨A, cap, eg⟩ := hg.len
 obtain ⟨B, cl, el⟩ := hlv.len
 subst eg el
 have hn := hT.len
 clear hg hT hG hlv
 generalize errG g [a, b] = er at *
 generalize equalG g a b = x at *
 generalize chkEqB g l = p at *
 generalize chkEqE g l = e2 at *
 cases hl : lightG g with
 | false =>
  rw [hl] at Hli
  go_enter Tryz.func9, Tryz.ntmps9
  go_wp2_with fail
  refine Hli.out.mono ?_
  rintro e w1 ⟨rfl, hx1⟩
  go_wp2_with fail
  refine (Hal.out _ hx1).mono ?_
  rintro e w2 ⟨rfl, hx2⟩
  go_wp2_with fail
  go_ret
  exact ⟨rfl, hx1.trans hx2⟩
 | true =>
  rw [hl] at Hli
  clear hl
  by_cases h6 : 60 < l.length
  ·by_cases h2 : l.length ≤ 2000
   ·skip
    have q : (60 : Int) < (l.length : Int) := by omega
    have q2 : (l.length : Int) ≤ (2000 : Int) := by omega
    go_enter Tryz.func9, Tryz.ntmps9
    go_wp2_with fail
    refine Hli.out.mono ?_
    rintro e w1 ⟨rfl, hx1⟩
    go_wp2_with fail
    refine (Hal.out _ hx1).mono ?_
    rintro e w2 ⟨rfl, hx2⟩
    go_wp2_with fail
    go_ret
    exact ⟨rfl, hx1.trans hx2⟩
   ·by_cases h3 : 2003 < l.length
    ·skip
     have q : (60 : Int) < (l.length : Int) := by omega
     have q2 : ¬ (l.length : Int) ≤ (2000 : Int) := by omega
     have q3 : (2003 : Int) < (l.length : Int) := by omega
     go_enter Tryz.func9, Tryz.ntmps9
     go_wp2_with fail
     refine Hli.out.mono ?_
     rintro e w1 ⟨rfl, hx1⟩
     go_wp2_with fail
     refine (Hal.out _ hx1).mono ?_
     rintro e w2 ⟨rfl, hx2⟩
     go_wp2_with fail
     go_ret
     exact ⟨rfl, hx1.trans hx2⟩
    ·skip
     have q : (60 : Int) < (l.length : Int) := by omega
     have q2 : ¬ (l.length : Int) ≤ (2000 : Int) := by omega
     have q3 : ¬ (2003 : Int) < (l.length : Int) := by omega
     go_enter Tryz.func9, Tryz.ntmps9
     go_wp2_with fail
     refine Hli.out.mono ?_
     rintro e w1 ⟨rfl, hx1⟩
     go_wp2_with fail
     refine (Heq.out _ hx1).mono ?_
     rintro e w2 ⟨rfl, hx2⟩
     have Hx2 := Lib.hid (hx1.trans hx2)
     clear hx1 hx2
     go_wp2_with fail
     refine (Hre.out _ Hx2.out).mono ?_
     rintro e w3 ⟨rfl, hx3⟩
     have Hx3 := Lib.hid (Hx2.out.trans hx3)
     clear hx3
     go_wp2_with fail
     refine (Hch.out _ Hx3.out).mono ?_
     rintro e w4 ⟨rfl, hx4⟩
     have Hx4 := Lib.hid (Hx3.out.trans hx4)
     clear hx4
     go_wp2_with fail
     refine (Hrc.out _ Hx4.out).mono ?_
     rintro e w5 ⟨rfl, hx5⟩
     have Hx5 := Lib.hid (Hx4.out.trans hx5)
     clear hx5
     go_wp2_with fail
     refine (Hal.out _ Hx5.out).mono ?_
     rintro e w6 ⟨rfl, hx6⟩
     have Hx6 := Lib.hid (Hx5.out.trans hx6)
     clear hx6
     cases x <;> cases p
     all_goals
      go_wp2_with fail
      go_ret
      exact ⟨rfl, Hx6.out⟩
  ·skip
   have q : ¬ (60 : Int) < (l.length : Int) := by omega
   have q3 : ¬ (2003 : Int) < (l.length : Int) := by omega
   go_enter Tryz.func9, Tryz.ntmps9
   go_wp2_with fail
   refine Hli.out.mono ?_
   rintro e w1 ⟨rfl, hx1⟩
   go_wp2_with fail
   refine (Heq.out _ hx1).mono ?_
   rintro e w2 ⟨rfl, hx2⟩
   have Hx2 := Lib.hid (hx1.trans hx2)
   clear hx1 hx2
   go_wp2_with fail
   refine (Hre.out _ Hx2.out).mono ?_
   rintro e w3 ⟨rfl, hx3⟩
   have Hx3 := Lib.hid (Hx2.out.trans hx3)
   clear hx3
   go_wp2_with fail
   refine (Hch.out _ Hx3.out).mono ?_
   rintro e w4 ⟨rfl, hx4⟩
   have Hx4 := Lib.hid (Hx3.out.trans hx4)
   clear hx4
   go_wp2_with fail
   refine (Hrc.out _ Hx4.out).mono ?_
   rintro e w5 ⟨rfl, hx5⟩
   have Hx5 := Lib.hid (Hx4.out.trans hx5)
   clear hx5
   go_wp2_with fail
   refine (Hal.out _ Hx5.out).mono ?_
   rintro e w6 ⟨rfl, hx6⟩
   have Hx6 := Lib.hid (Hx5.out.trans hx6)
   clear hx6
   cases x <;> cases p
   all_goals
    go_wp2_with fail
    go_ret
    exact ⟨rfl, Hx6.out⟩
end Go.Proofs.YtldnjnnhfeobdaaGreatDoor
/- Lists of pairs that a law of the seat is given; five parameters. No condition. -/
namespace Go.Proofs.YtldnjnnhfeobdaaGreatDoor
open Go.RowKit Go.ChangeShapes Go.WideShapes Go.ChangeAt
section
variable {H : Type} {enc : TypeId × Value → H} {W : World}
theorem k61 : Tryz.prog.cellsOf 61 = 2 := by kernel_rfl
set_option maxRecDepth 100000 in
theorem opens_pair : Opens enc W 61 pairE (fun _ _ => True) := by
 intro n fuel cs x hx
 obtain ⟨ys, f, rfl, rfl, hl, hyl, hf⟩ := DataW.trod_array Tryz.underlying61 hx
 rw [k61] at hl
 obtain ⟨c0, c1, rfl⟩ := list2 hl
 have h0 := hf 0 (by omega)
 have h1 := hf 1 (by omega)
 rw [k3] at h0 h1
 obtain ⟨y0, y1, rfl⟩ := list2 hyl
 obtain ⟨a, e0, _⟩ := opens_int n _ _ _ (show DataW.trod enc Tryz.prog W 0 (fun _ => true) true f 3 [c0] = some y0 from h0)
 obtain ⟨b, e1, _⟩ := opens_int n _ _ _ (show DataW.trod enc Tryz.prog W 0 (fun _ => true) true f 3 [c1] = some y1 from h1)
 simp only [intE, List.cons.injEq, and_true] at e0 e1
 subst e0 e1
 exact ⟨(a, b), rfl, fun _ => trivial⟩
theorem opens_pairs : OpensSl enc W 56 pairE (fun _ _ => True) := opens_slice Tryz.underlying56 k61 opens_pair
end
set_option maxRecDepth 100000 in
theorem open_pairs {H : Type} {enc : TypeId × Value → H} {W : World} {base : Nat} {v : Value} {d : DataW H} {p : List MemPlace} (hval : Value.okWide Tryz.prog W .any base 56 v) (h : DataW.Trod enc Tryz.prog W 0 (fun _ => true) true 56 v d p) {B : Nat} (hB : B = 1048576) (hb : Rows.uptoBulk d ≤ B) :
  ∃ xs, Sl pairE W v xs ∧ xs.length ≤ 1048576 := by
 obtain ⟨a, len, cap, rfl⟩ := okWide_slice Tryz.underlying56 hval
 obtain ⟨f, hf⟩ := h
 obtain ⟨v', g, e, hg, hs⟩ := opens_pairs B _ _ _ hf
 have e' : Value.slice a len cap = v' := List.cons.inj e |>.1
 subst e'
 have hs := (hs hb).1
 rw [hB] at hs
 exact ⟨g, hg, hs⟩
end Go.Proofs.YtldnjnnhfeobdaaGreatDoor
