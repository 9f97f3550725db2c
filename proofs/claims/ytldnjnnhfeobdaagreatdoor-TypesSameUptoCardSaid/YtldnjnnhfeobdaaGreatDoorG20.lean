/- Parts of the proof, joined: A map of the call's own, ranged over: what comes out is an entry that has not come yet, whichever. No condition; Types that are the same: no way tells them, their texts are equal; others: the way that is found tells them, and it is a least one. No program; Pairs that show that types are the same; graphs that are equal. No program. No condition; Contract: CheckEqual. Conditions: a tidy graph, at most 2^20 pairs. -/
import Derived.Maps.RangeWalk
import Derived.Test.YtldnjnnhfeobdaaGreatDoorG02
import Derived.Test.YtldnjnnhfeobdaaGreatDoorG08
import Derived.Test.YtldnjnnhfeobdaaGreatDoorG06
import Derived.Test.YtldnjnnhfeobdaaGreatDoorG10
import Derived.Test.YtldnjnnhfeobdaaGreatDoorG07
import Derived.Test.YtldnjnnhfeobdaaGreatDoorG09
namespace Go.Proofs.YtldnjnnhfeobdaaGreatDoor
set_option linter.all false
set_option linter.unusedSimpArgs false
set_option linter.unusedVariables false
open Go.RowKit Go.Shelf

/-- what MapF says of the entries -/
structure Entr {P : Program} {kt : TypeId} {κ : Type} (K : KeyEnc P kt κ) (es : Array MapEntry) (clock : Nat) (f : κ → Option Value) : Prop where
  has : ∀ e ∈ es.toList, ∃ k, e.key = K.enc k ∧ f k = some e.val
  all : ∀ k v, f k = some v → ∃ e ∈ es.toList, e.key = K.enc k
  one : ∀ i j (hi : i < es.size) (hj : j < es.size), es[i].key = es[j].key → i = j
  born : ∀ e ∈ es.toList, e.born < clock
  nodup : (es.toList.map (·.born)).Nodup
/-- block b is a map whose entries are the pairs of f, each with a stamp of its own -/
def MapS {P : Program} {kt : TypeId} {κ : Type} (K : KeyEnc P kt κ) (w : World) (b : Nat) (f : κ → Option Value) : Prop :=
  ∃ es clock, w.heap[b]? = some (.map es clock) ∧ Entr K es clock f

section
variable {P : Program} {kt : TypeId} {κ : Type} {K : KeyEnc P kt κ} {w : World} {b : Nat} {f : κ → Option Value}
theorem MapS.mapF (h : MapS K w b f) : MapF K w b f := by
  obtain ⟨es, clock, hb, h⟩ := h
  exact ⟨es, clock, hb, h.has, h.all, h.one⟩
theorem MapS.made (K : KeyEnc P kt κ) (w : World) : MapS K (w.alloc (.map #[] 0)) w.heap.size (fun _ => none) :=
  ⟨#[], 0, (MapKept.heap_alloc w _).1, ⟨by simp, by simp, by simp, by simp, by simp⟩⟩
theorem MapS.ext {w' : World} (h : MapS K w b f) (hx : Ext w w') : MapS K w' b f := by
  obtain ⟨es, clock, hb, h⟩ := h
  exact ⟨es, clock, hx.heap hb, h⟩
theorem MapS.kept {w' : World} (h : MapS K w b f) (hb' : w'.heap[b]? = w.heap[b]?) : MapS K w' b f := by
  obtain ⟨es, clock, hb, h⟩ := h
  exact ⟨es, clock, hb'.trans hb, h⟩
theorem MapS.lt (h : MapS K w b f) : b < w.heap.size := h.mapF.lt
theorem MapS.update [DecidableEq κ] (h : MapS K w b f) {t e : TypeId} (ht : P.underlying t = some (.map kt e)) (k : κ) (v : Value) :
    ∃ w', (Instr.mapUpdate t (.map (some b)) (K.enc k) v).run P w = .ok () w' ∧ MapS K w' b (put f k v) ∧ w.grownBy w' (some b) := by
  obtain ⟨es, clock, hb, h1, h2, hd, hbn, hnd⟩ := h
  obtain ⟨r, hr, hm⟩ := K.find w k es.toList (fun e he => let ⟨k', h, _⟩ := h1 e he; ⟨k', h⟩)
  have hc := K.check false w k
  have hlt := (Array.getElem?_eq_some_iff.1 hb).1
  have hset : ∀ o, ({ w with heap := w.heap.setIfInBounds b o } : World).heap[b]? = some o := fun o => by simp [hlt]
  have hgrow : ∀ o, w.grownBy ({ w with heap := w.heap.setIfInBounds b o } : World) (some b) := fun o =>
    ⟨rfl, rfl, rfl, by simp, fun i _ hi => by
      have : b ≠ i := fun e => hi (by rw [e])
      simp [Array.getElem?_setIfInBounds, this]⟩
  cases r with
  | none =>
    refine ⟨_, ?_, ⟨es.push { key := K.enc k, val := v, born := clock }, clock + 1, hset _, ?_, ?_, ?_, ?_, ?_⟩, hgrow _⟩
    · simp [Instr.mapUpdate, run_underlying ht, getObj, setObj, Sem.run, hb, hc, hr]
    · intro e he
      simp only [Array.toList_push, List.mem_append, List.mem_singleton] at he
      rcases he with he | rfl
      · obtain ⟨k', h3, h4⟩ := h1 e he
        refine ⟨k', h3, ?_⟩
        have : k' ≠ k := fun e' => hm e he (by rw [h3, e'])
        simp [put, this, h4]
      · exact ⟨k, rfl, by simp [put]⟩
    · intro k' v' hv
      by_cases e : k' = k
      · subst e
        exact ⟨{ key := K.enc k', val := v, born := clock }, by simp, rfl⟩
      · simp only [put, e, if_false] at hv
        obtain ⟨e', he', hk'⟩ := h2 k' v' hv
        exact ⟨e', by simp [he'], hk'⟩
    · intro i j hi hj hij
      simp only [Array.size_push] at hi hj
      by_cases h3 : i < es.size <;> by_cases h4 : j < es.size
      · rw [Array.getElem_push_lt h3, Array.getElem_push_lt h4] at hij
        exact hd i j h3 h4 hij
      · have e4 : j = es.size := by omega
        subst e4
        rw [Array.getElem_push_lt h3, Array.getElem_push_eq] at hij
        exact absurd hij (hm es[i] (by simp))
      · have e3 : i = es.size := by omega
        subst e3
        rw [Array.getElem_push_lt h4, Array.getElem_push_eq] at hij
        exact absurd hij.symm (hm es[j] (by simp))
      · omega
    · intro e he
      simp only [Array.toList_push, List.mem_append, List.mem_singleton] at he
      rcases he with he | rfl
      · have := hbn e he; omega
      · show clock < clock + 1; omega
    · rw [Array.toList_push, List.map_append, List.nodup_append]
      refine ⟨hnd, by simp, ?_⟩
      intro a ha c hc' e
      simp only [List.map_cons, List.map_nil, List.mem_singleton] at hc'
      obtain ⟨x, hx, rfl⟩ := List.mem_map.1 ha
      have := hbn x hx
      omega
  | some q =>
    obtain ⟨i, v0⟩ := q
    obtain ⟨e0, he0, hk0, hv0⟩ := hm
    have hst := K.stays w k
    have hi : i < es.size := by
      have := (List.getElem?_eq_some_iff.1 he0).1
      simpa using this
    have hget : es[i] = e0 := by
      have := (List.getElem?_eq_some_iff.1 he0).2
      simpa using this
    have hmb : (es.modify i (fun e => { e with key := K.enc k, val := v })).toList.map (·.born) = es.toList.map (·.born) := by
      refine List.ext_getElem (by simp) fun m h1 h2 => ?_
      simp only [List.getElem_map, Array.getElem_toList, Array.getElem_modify]
      split <;> rfl
    refine ⟨_, ?_, ⟨es.modify i (fun e => { e with key := K.enc k, val := v }), clock, hset _, ?_, ?_, ?_, ?_, ?_⟩, hgrow _⟩
    · have hk : (((es[i]?).map (·.key)).getD (K.enc k)) = K.enc k := by rw [Array.getElem?_eq_getElem hi, hget]; exact hk0
      simp [Instr.mapUpdate, run_underlying ht, getObj, setObj, Sem.run, hb, hc, hr, hget, hi, hk0, hst]
    · intro e he
      obtain ⟨j, hj, rfl⟩ := List.mem_iff_getElem.1 he
      have hj' : j < es.size := by simpa using hj
      simp only [Array.getElem_toList, Array.getElem_modify]
      split
      · exact ⟨k, rfl, by simp [put]⟩
      · rename_i hne
        obtain ⟨k', h3, h4⟩ := h1 es[j] (by simp)
        refine ⟨k', h3, ?_⟩
        have e : ¬ k' = k := by
          rintro rfl
          exact hne (hd i j hi hj' (by rw [hget, hk0, h3]))
        simp [put, e, h4]
    · intro k' v' hv
      by_cases e : k' = k
      · subst e
        refine ⟨{ es[i] with key := K.enc k', val := v }, ?_, rfl⟩
        rw [List.mem_iff_getElem]
        exact ⟨i, by simpa using hi, by simp⟩
      · simp only [put, e, if_false] at hv
        obtain ⟨e', he', hk'⟩ := h2 k' v' hv
        obtain ⟨j, hj, rfl⟩ := List.mem_iff_getElem.1 he'
        have hj' : j < es.size := by simpa using hj
        refine ⟨es[j], ?_, hk'⟩
        rw [List.mem_iff_getElem]
        refine ⟨j, by simpa using hj', ?_⟩
        simp only [Array.getElem_toList, Array.getElem_modify]
        rw [if_neg]
        rintro rfl
        rw [Array.getElem_toList, hget, hk0] at hk'
        exact e (K.inj _ _ hk').symm
    · have hsame : ∀ (m : Nat) (hm : m < es.size), ((es.modify i (fun e => { e with key := K.enc k, val := v }))[m]'(by simpa using hm)).key = es[m].key := by
        intro m hm
        simp only [Array.getElem_modify]
        split
        · rename_i h; subst h; rw [hget, hk0]
        · rfl
      intro m j hm hj hij
      have hm' : m < es.size := by simpa using hm
      have hj' : j < es.size := by simpa using hj
      rw [hsame m hm', hsame j hj'] at hij
      exact hd m j hm' hj' hij
    · intro e he
      have : e.born ∈ (es.modify i (fun e => { e with key := K.enc k, val := v })).toList.map (·.born) := List.mem_map.2 ⟨e, he, rfl⟩
      rw [hmb] at this
      obtain ⟨x, hx, hxe⟩ := List.mem_map.1 this
      rw [← hxe]
      exact hbn x hx
    · rw [hmb]; exact hnd
/-- 'for k := range m' under way: block r is the iterator; of the entries that have come, D holds; so many are still to come -/
def RngS {P : Program} {kt : TypeId} {κ : Type} (K : KeyEnc P kt κ) (w : World) (b r : Nat) (f : κ → Option Value) (D : κ → Prop) (cnt : Nat) : Prop :=
  ∃ es clock since seen c0, w.heap[b]? = some (.map es clock) ∧ Entr K es clock f ∧ w.heap[r]? = some (.mapIter (some b) since seen c0) ∧ (∀ e ∈ es.toList, e.born < since) ∧ since ≤ c0 ∧ since ≤ clock ∧
    (leftOf es seen).size = cnt ∧ ∀ e ∈ es.toList, seen.contains e.born = true → ∃ k, e.key = K.enc k ∧ D k
variable {r : Nat} {D : κ → Prop} {cnt : Nat}
theorem RngS.mapS (h : RngS K w b r f D cnt) : MapS K w b f := by
  obtain ⟨es, clock, since, seen, c0, hb, he, _⟩ := h
  exact ⟨es, clock, hb, he⟩
theorem RngS.left (h : RngS K w b r f D cnt) : w.rangeLeft b r = cnt := by
  obtain ⟨es, clock, since, seen, c0, hb, _, hr, _, _, _, hc, _⟩ := h
  simp only [World.rangeLeft, hb, hr]
  exact hc
theorem RngS.lt (h : RngS K w b r f D cnt) : r < w.heap.size := by
  obtain ⟨es, clock, since, seen, c0, hb, _, hr, _⟩ := h
  exact (Array.getElem?_eq_some_iff.1 hr).1
theorem RngS.ext {w' : World} (h : RngS K w b r f D cnt) (hx : Ext w w') : RngS K w' b r f D cnt := by
  obtain ⟨es, clock, since, seen, c0, hb, he, hr, h⟩ := h
  exact ⟨es, clock, since, seen, c0, hx.heap hb, he, hx.heap hr, h⟩
theorem MapS.range (h : MapS K w b f) (D : κ → Prop) {t e : TypeId} (ht : P.underlying t = some (.map kt e)) :
    ∃ w' cnt, (Instr.range t (.map (some b))).run P w = .ok (.pointer (some ⟨w.heap.size, 0, none⟩)) w' ∧ RngS K w' b w.heap.size f D cnt ∧ Ext w w' := by
  have hlt := h.lt
  obtain ⟨es, clock, hb, he⟩ := h
  exact ⟨_, _, run_range_map w t kt e b es clock ht hb, ⟨es, clock, clock, #[], clock, ((MapKept.heap_alloc w _).2 b hlt).trans hb, he, (MapKept.heap_alloc w _).1, he.born, Nat.le_refl _, Nat.le_refl _, rfl, fun e _ h => by simp at h⟩, (Ext.refl w).alloc _⟩
theorem RngS.next (h : RngS K w b r f D cnt) (ty : TypeId) :
    ((∀ k v, f k = some v → D k) ∧ (Instr.next (.pointer (some ⟨r, 0, none⟩)) false ty).run P w = .ok (.tuple #[.bool false]) w) ∨
    ∃ k v w' cnt', f k = some v ∧ (Instr.next (.pointer (some ⟨r, 0, none⟩)) false ty).run P w = .ok (.tuple #[.bool true, K.enc k, v]) w' ∧ RngS K w' b r f (fun k' => D k' ∨ k' = k) cnt' ∧ cnt' < cnt ∧ w.grownBy w' (some r) ∧
      (Instr.entry (.pointer (some ⟨r, 0, none⟩))).run P w' = .ok (.tuple #[K.enc k, v]) w' := by
  obtain ⟨es, clock, since, seen, c0, hb, he, hr, hold, hsc, hsk, rfl, hdone⟩ := h
  have hne : r ≠ b := by
    intro e
    rw [e, hb] at hr
    cases hr
  rcases run_next_at (P := P) w ty r b since c0 seen es clock hr hb hold hsc with ⟨h0, hrun⟩ | ⟨e, hel, w1, hal, hrun⟩
  · refine .inl ⟨fun k v hk => ?_, hrun⟩
    obtain ⟨e, hem, hek⟩ := he.all k v hk
    obtain ⟨k', h1, h2⟩ := hdone e hem (all_seen es seen h0 e hem)
    have : k' = k := K.inj _ _ (h1.symm.trans hek)
    subst this
    exact h2
  · obtain ⟨hem, hes⟩ := mem_left hel
    obtain ⟨k, hk, hfk⟩ := he.has e hem
    have hr1 : w1.heap[r]? = some (.mapIter (some b) since seen c0) := by rcases hal with rfl | rfl <;> exact hr
    have hb1 : w1.heap[b]? = some (.map es clock) := by rcases hal with rfl | rfl <;> exact hb
    have hset := MapKept.heap_set (o' := .mapIter (some b) since (seen.push e.born) clock) hr1
    have hb' : (ChangeMaps.setBlock w1 r (.mapIter (some b) since (seen.push e.born) clock)).heap[b]? = some (.map es clock) := (hset.2 b (fun e1 => hne e1.symm)).trans hb1
    refine .inr ⟨k, e.val, _, _, hfk, by rw [← hk]; exact hrun, ⟨es, clock, since, seen.push e.born, clock, hb', he, hset.1, hold, hsk, hsk, rfl, fun x hx hxs => ?_⟩, left_shrinks es seen e hel, ?_, ?_⟩
    · rw [contains_push, Bool.or_eq_true] at hxs
      rcases hxs with hxs | hxs
      · obtain ⟨k', h1, h2⟩ := hdone x hx hxs
        exact ⟨k', h1, .inl h2⟩
      · have : x = e := born_inj he.nodup hx hem (by simpa using hxs)
        subst this
        exact ⟨k, hk, .inr rfl⟩
    · rcases hal with rfl | rfl <;> exact ⟨rfl, rfl, rfl, by simp [ChangeMaps.setBlock], fun i _ hi => hset.2 i (fun e1 => hi (by rw [e1]))⟩
    · rw [← hk]
      exact run_entry_at _ r b since seen es clock e hset.1 hb' hem he.nodup
end
section
variable {P : Program} {ops : Array Oper} {rest : List Oper} {o : Oper} {a : Act} {Q : Exit → Act → World → Prop} {kt : TypeId} {κ : Type} {w : World}
theorem wpList_update_S [DecidableEq κ] (K : KeyEnc P kt κ) (hg : o.guard = none) (m x v : Operand) (t e : TypeId) (hop : o.op = Op.mapUpdate t m x v) (ht : P.underlying t = some (.map kt e))
    (b : Nat) (f : κ → Option Value) (k : κ) (hm : a.eval m = .map (some b)) (hx : a.eval x = K.enc k) (h : MapS K w b f)
    (hK : ∀ w', MapS K w' b (put f k (a.eval v)) → w.grownBy w' (some b) → wpList P ops Q rest (a.put o.dst undef) w') : wpList P ops Q (o :: rest) a w := by
  refine wpList_plain hg fun K' hK' => ?_
  obtain ⟨w', hrun, h1, h2⟩ := h.update ht k (a.eval v)
  unfold Oper.wp
  simp [execOp, hop, hm, hx, hrun, Result.andThen]
  exact hK' _ _ (hK w' h1 h2)
theorem wpList_range_S (K : KeyEnc P kt κ) (D : κ → Prop) (hg : o.guard = none) (m : Operand) (t e : TypeId) (hop : o.op = Op.range t m) (ht : P.underlying t = some (.map kt e)) (b : Nat) (f : κ → Option Value)
    (hm : a.eval m = .map (some b)) (h : MapS K w b f)
    (hK : ∀ w' cnt, RngS K w' b w.heap.size f D cnt → Ext w w' → wpList P ops Q rest (a.put o.dst (.pointer (some ⟨w.heap.size, 0, none⟩))) w') : wpList P ops Q (o :: rest) a w := by
  refine wpList_plain hg fun K' hK' => ?_
  obtain ⟨w', cnt, hrun, r1, r2⟩ := h.range D ht
  unfold Oper.wp
  simp [execOp, hop, hm, hrun, Result.andThen]
  exact hK' _ _ (hK w' cnt r1 r2)
theorem wpList_next_S (K : KeyEnc P kt κ) (D : κ → Prop) (hg : o.guard = none) (it : Operand) (hop : o.op = Op.next it false) (b r : Nat) (f : κ → Option Value) (cnt : Nat)
    (hit : a.eval it = .pointer (some ⟨r, 0, none⟩)) (h : RngS K w b r f D cnt)
    (hDone : (∀ k v, f k = some v → D k) → wpList P ops Q rest (a.put o.dst (.tuple #[.bool false])) w)
    (hMore : ∀ k v w' cnt', f k = some v → RngS K w' b r f (fun k' => D k' ∨ k' = k) cnt' → cnt' < cnt → w.grownBy w' (some r) → (Instr.entry (.pointer (some ⟨r, 0, none⟩))).run P w' = .ok (.tuple #[K.enc k, v]) w' →
      wpList P ops Q rest (a.put o.dst (.tuple #[.bool true, K.enc k, v])) w') : wpList P ops Q (o :: rest) a w := by
  refine wpList_plain hg fun K' hK' => ?_
  unfold Oper.wp
  rcases h.next o.type with ⟨h0, hrun⟩ | ⟨k, v, w', cnt', hk, hrun, hr, hlt, hgr, hen⟩
  · simp [execOp, hop, hit, hrun, Result.andThen]
    exact hK' _ _ (hDone h0)
  · simp [execOp, hop, hit, hrun, Result.andThen]
    exact hK' _ _ (hMore k v w' cnt' hk hr hlt hgr hen)
end
end Go.Proofs.YtldnjnnhfeobdaaGreatDoor
/- Types that are the same: no way tells them, their texts are equal; others: the way that is found tells them, and it is a least one. No program. -/
namespace Go.Proofs.YtldnjnnhfeobdaaGreatDoor
set_option linter.all false
set_option linter.unusedSimpArgs false
set_option linter.unusedVariables false
open Go.RowKit Go.Shelf

theorem tellsI_cast (g : Graph) : ∀ (w : List Nat) (i j : Nat), tellsI g i j (w.map fun (n : Nat) => (n : Int)) = tellsN (agN g) (refsN g) i j w
  | [], i, j => rfl
  | k :: w, i, j => by
    rw [List.map_cons]
    unfold tellsI tellsN
    rw [Int.toNat_natCast, tellsI_cast g w]
    have : hasB (refsN g i).length (k : Int) = decide (k < (refsN g i).length) := by
      unfold hasB inB; rw [Bool.eq_iff_iff]; simp; omega
    rw [this]
theorem tellsI_nat {g : Graph} : ∀ {w : List Int} {i j : Nat}, tellsI g i j w = true → w = (w.map Int.toNat).map fun (n : Nat) => (n : Int)
  | [], i, j, _ => rfl
  | k :: w, i, j, h => by
    unfold tellsI at h
    simp only [Bool.and_eq_true] at h
    have hk : 0 ≤ k := by have := h.2.1; unfold hasB inB at this; simp at this; omega
    have ih := tellsI_nat h.2.2
    rw [List.map_cons, List.map_cons, ← ih]
    congr 1
    omega
theorem same_facts {g : Graph} (hW : WF g) {i j : Nat} (hi : i < g.length) (hj : j < g.length) (h : sameG g i j = true) :
    wayN (agN g) (refsN g) g.length i j = none ∧ textG g i = textG g j ∧ ∀ w : List Int, tellsI g i j w = false := by
  have hs : clsG g i = clsG g j := by simpa [sameG, clsG] using h
  have hno : ∀ w : List Int, tellsI g i j w = false := by
    intro w
    cases ht : tellsI g i j w with
    | false => rfl
    | true =>
      rw [tellsI_nat ht, tellsI_cast, sameN_no_way hW.abs _ _ _ hi hj hs] at ht
      exact absurd ht (by simp)
  refine ⟨?_, text_same hW hi hj hs, hno⟩
  have hf := wayN_found hW.abs hi hj
  cases hw : wayN (agN g) (refsN g) g.length i j with
  | none => rfl
  | some u =>
    rw [hw] at hf
    have h1 := hf.1
    rw [← tellsI_cast, hno] at h1
    exact absurd h1 (by simp)
theorem differ_facts {g : Graph} (hW : WF g) {i j : Nat} (hi : i < g.length) (hj : j < g.length) (h : sameG g i j = false) :
    ∃ u, wayN (agN g) (refsN g) g.length i j = some u ∧ textG g i ≠ textG g j ∧ tellsI g i j (u.map fun (n : Nat) => (n : Int)) = true ∧ ∀ w : List Int, tellsI g i j w = true → u.length ≤ w.length := by
  have hs : ¬ clsG g i = clsG g j := by simpa [sameG, clsG] using h
  have hf := wayN_found hW.abs hi hj
  cases hw : wayN (agN g) (refsN g) g.length i j with
  | none =>
    rw [hw] at hf
    exact absurd (no_way_sameN hW.abs hi hj hf) hs
  | some u =>
    rw [hw] at hf
    refine ⟨u, rfl, fun e => hs (same_of_text hW hi hj e), by rw [tellsI_cast]; exact hf.1, fun w ht => ?_⟩
    rw [tellsI_nat ht, tellsI_cast] at ht
    have := hf.2 _ ht
    simpa using this
theorem apartN_len {n : Nat} {ag : Nat → Nat → Bool} {rf : Nat → List Nat} {a b : Nat} (G : AbsGraph n ag rf) (hn : n ≤ 400) : ∀ f dn s o, Inv n ag rf a b dn s o → WInv dn s o → ∀ u, apartN ag rf f s o = some u → u.length ≤ 160000 := by
  intro f
  induction f with
  | zero => intro dn s o _ _ u h; simp [apartN] at h
  | succ f ih =>
    intro dn s o I W u h
    cases o with
    | nil => simp [apartN] at h
    | cons x o =>
      unfold apartN at h
      cases hx : ag x.1.1 x.1.2 with
      | false =>
        rw [hx] at h
        simp at h
        subst h
        exact (W.bound I hn).2 x (by simp)
      | true =>
        rw [hx] at h
        simp only [if_true] at h
        exact ih _ _ _ (I.step G hx) (W.step _) u h
theorem wayN_len {g : Graph} (hW : WF g) {i j : Nat} (hi : i < g.length) (hj : j < g.length) {u : List Nat} (h : wayN (agN g) (refsN g) g.length i j = some u) : u.length ≤ 160000 :=
  apartN_len hW.abs hW.len _ _ _ _ (Inv.init hi hj) (WInv.init i j) u h
theorem err_parts {g : Graph} {a b : Int} (h : errG g [a, b] = 0) : errG g [a] = 0 ∧ errG g [b] = 0 := by
  unfold errG at h ⊢
  split at h
  · rename_i hc
    rw [if_pos hc, if_pos hc]
    simp only [List.any_cons, List.any_nil, Bool.or_false] at h ⊢
    cases h1 : outB g.length a <;> cases h2 : outB g.length b <;> simp [h1, h2] at h ⊢
  · simp at h
end Go.Proofs.YtldnjnnhfeobdaaGreatDoor
/- Pairs that show that types are the same; graphs that are equal. No program. No condition. -/
namespace Go.Proofs.YtldnjnnhfeobdaaGreatDoor
set_option linter.all false
set_option linter.unusedSimpArgs false
set_option linter.unusedVariables false
open Go.RowKit

def inG (g : Graph) (i : Int) : Bool := decide (0 ≤ i ∧ i < g.length)
/-- the references of a pair of types, pair by pair -/
def refsP (g : Graph) (p : Int × Int) : List (Int × Int) := (refsL (getT g p.1.toNat)).zip (refsL (getT g p.2.toNat))
def pairB (g : Graph) (l : List (Int × Int)) (p : Int × Int) : Bool :=
  (inG g p.1 && inG g p.2) && (agreeT (getT g p.1.toNat) (getT g p.2.toNat) && (refsP g p).all fun q => decide (q ∈ l))
def pairsB (g : Graph) (l : List (Int × Int)) : Bool := l.all (pairB g l)
def chkEqE (g : Graph) (l : List (Int × Int)) : Int := if errG g [] = 0 then (if 2000 < l.length then 2 else 0) else errG g []
def chkEqB (g : Graph) (l : List (Int × Int)) : Bool := if errG g [] = 0 ∧ l.length ≤ 2000 then pairsB g l else false

theorem inG_iff {g : Graph} {i : Int} : inG g i = true ↔ 0 ≤ i ∧ i < g.length := by unfold inG; simp
theorem all2_of_zip {P : Int × Int → Prop} {R : Nat → Nat → Prop} (h : ∀ x y : Int, P (x, y) → R x.toNat y.toNat) : ∀ {xs ys : List Int}, xs.length = ys.length → (∀ q ∈ xs.zip ys, P q) → All2 R (xs.map Int.toNat) (ys.map Int.toNat)
  | [], [], _, _ => .nil
  | [], y :: ys, hl, _ => by simp at hl
  | x :: xs, [], hl, _ => by simp at hl
  | x :: xs, y :: ys, hl, hp => .cons (h x y (hp _ (by simp))) (all2_of_zip h (by simpa using hl) fun q hq => hp q (by simp [hq]))
theorem pairs_same {g : Graph} (hg : WF g) {l : List (Int × Int)} (h : pairsB g l = true) : ∀ p ∈ l, inG g p.1 = true ∧ inG g p.2 = true ∧ sameG g p.1.toNat p.2.toNat = true := by
  have hall : ∀ p ∈ l, pairB g l p = true := List.all_eq_true.1 h
  have hB : Bisim g.length (agN g) (refsN g) (fun i j => ((i : Int), (j : Int)) ∈ l) := by
    refine ⟨fun i j hi hj hm => ?_, fun i j hi hj hm => ?_⟩
    · have := hall _ hm
      unfold pairB at this
      simp only [Bool.and_eq_true, Int.toNat_natCast] at this
      exact this.2.1
    · have := hall _ hm
      unfold pairB refsP at this
      simp only [Bool.and_eq_true, Int.toNat_natCast, List.all_eq_true, decide_eq_true_eq] at this
      obtain ⟨_, ha, hr⟩ := this
      unfold refsN
      refine all2_of_zip (P := fun q => q ∈ l) (fun x y hq => ?_) (refsL_length ha) hr
      have := hall _ hq
      unfold pairB at this
      simp only [Bool.and_eq_true, inG_iff] at this
      obtain ⟨⟨⟨h1, _⟩, h2, _⟩, _⟩ := this
      rw [Int.toNat_of_nonneg h1, Int.toNat_of_nonneg h2]
      exact hq
  intro p hp
  have h1 := hall p hp
  unfold pairB at h1
  simp only [Bool.and_eq_true] at h1
  obtain ⟨⟨h2, h3⟩, _⟩ := h1
  refine ⟨h2, h3, ?_⟩
  rw [inG_iff] at h2 h3
  unfold sameG
  rw [decide_eq_true_iff]
  refine (classesN_facts hg.abs).2.2.1 _ hB _ _ (by omega) (by omega) ?_
  rw [Int.toNat_of_nonneg h2.1, Int.toNat_of_nonneg h3.1]
  exact hp
/-- types that are the same agree, and their references are the same -/
theorem same_agree {g : Graph} (hg : WF g) {a b : Nat} (ha : a < g.length) (hb : b < g.length) (h : sameG g a b = true) :
    agreeT (getT g a) (getT g b) = true ∧ (refsL (getT g a)).length = (refsL (getT g b)).length ∧ ∀ k, k < (refsL (getT g a)).length → sameG g ((refsL (getT g a)).getD k 0).toNat ((refsL (getT g b)).getD k 0).toNat = true := by
  have h0 : (classesG g).getD a 0 = (classesG g).getD b 0 := of_decide_eq_true h
  have h' : SameN (agN g) (refsN g) g.length a b := h0
  have hag : agreeT (getT g a) (getT g b) = true := (sameN_bisim hg.abs).ag a b ha hb h'
  refine ⟨hag, refsL_length hag, fun k hk => ?_⟩
  have h2 := forall2_getD ((sameN_bisim hg.abs).rf a b ha hb h') k (by unfold refsN; simpa using hk)
  have hk2 : k < (refsL (getT g b)).length := by rw [← refsL_length hag]; exact hk
  have e : ∀ (t : Ty), k < (refsL t).length → (((refsL t).map Int.toNat).getD k 0) = ((refsL t).getD k 0).toNat := fun t ht => by
    simp [List.getD_eq_getElem?_getD, List.getElem?_eq_getElem ht]
  unfold refsN at h2
  rw [e _ hk, e _ hk2] at h2
  exact decide_eq_true h2
theorem sameG_refl (g : Graph) (a : Nat) : sameG g a a = true := by unfold sameG; simp
theorem sameG_symm (g : Graph) (a b : Nat) : sameG g a b = sameG g b a := by unfold sameG; rw [Bool.eq_iff_iff]; simp [eq_comm]
theorem sameG_trans {g : Graph} {a b c : Nat} (h1 : sameG g a b = true) (h2 : sameG g b c = true) : sameG g a c = true := by
  unfold sameG at *; simp only [decide_eq_true_eq] at *; omega
end Go.Proofs.YtldnjnnhfeobdaaGreatDoor
/- Contract: CheckEqual. Conditions: a tidy graph, at most 2^20 pairs. -/
namespace Go.Proofs.YtldnjnnhfeobdaaGreatDoor
set_option linter.all false
set_option linter.unusedSimpArgs false
set_option linter.unusedVariables false
open Go.RowKit Go.Shelf

/-- pairs as a map -/
def prsF (l : List (Int × Int)) : Int × Int → Option Value := fun q => if q ∈ l then some (.bool true) else none
theorem prsF_nil : prsF [] = fun _ => none := by funext q; simp [prsF]
theorem prsF_put (l : List (Int × Int)) (p : Int × Int) : put (prsF l) p (.bool true) = prsF (l ++ [p]) := by
  funext q
  unfold put prsF
  by_cases e : q = p
  · simp [e]
  · by_cases h : q ∈ l <;> simp [e, h]
theorem prsF_getD (l : List (Int × Int)) (p : Int × Int) : (prsF l p).getD (.bool false) = .bool (decide (p ∈ l)) := by
  unfold prsF
  by_cases h : p ∈ l <;> simp [h]
theorem prsF_some {l : List (Int × Int)} {p : Int × Int} {v : Value} (h : prsF l p = some v) : p ∈ l := by
  unfold prsF at h
  by_cases e : p ∈ l
  · exact e
  · simp [e] at h
theorem hasB_inG (g : Graph) (i : Int) : hasB g.length i = inG g i := by
  unfold hasB inG inB
  rw [Bool.eq_iff_iff]; simp; omega
theorem RngS.imp {P : Program} {kt : TypeId} {κ : Type} {K : KeyEnc P kt κ} {w : World} {b r cnt : Nat} {f : κ → Option Value} {D D' : κ → Prop} (h : RngS K w b r f D cnt) (hD : ∀ k, D k → D' k) : RngS K w b r f D' cnt := by
  obtain ⟨es, clock, since, seen, c0, hb, he, hr, h1, h2, h3, h4, h5⟩ := h
  exact ⟨es, clock, since, seen, c0, hb, he, hr, h1, h2, h3, h4, fun e hm hs => let ⟨k, a, b⟩ := h5 e hm hs; ⟨k, a, hD k b⟩⟩
/-- why pairs are none -/
theorem pairs_no {g : Graph} {l : List (Int × Int)} {p : Int × Int} (hp : p ∈ l) (h : pairB g l p = false) : pairsB g l = false := by
  unfold pairsB
  rw [List.all_eq_false]
  exact ⟨p, hp, by rw [h]; decide⟩
theorem pair_no1 {g : Graph} {l : List (Int × Int)} {p : Int × Int} (h : inG g p.1 = false) : pairB g l p = false := by unfold pairB; rw [h]; rfl
theorem pair_no2 {g : Graph} {l : List (Int × Int)} {p : Int × Int} (h : inG g p.2 = false) : pairB g l p = false := by unfold pairB; rw [h]; simp
theorem pair_no3 {g : Graph} {l : List (Int × Int)} {p : Int × Int} (h : agreeT (getT g p.1.toNat) (getT g p.2.toNat) = false) : pairB g l p = false := by unfold pairB; rw [h]; simp
theorem pair_no4 {g : Graph} {l : List (Int × Int)} {p : Int × Int} {k : Nat} (h1 : k < (refsL (getT g p.1.toNat)).length) (h2 : k < (refsL (getT g p.2.toNat)).length)
    (h : ((refsL (getT g p.1.toNat))[k], (refsL (getT g p.2.toNat))[k]) ∉ l) : pairB g l p = false := by
  unfold pairB refsP
  have : (((refsL (getT g p.1.toNat)).zip (refsL (getT g p.2.toNat))).all fun q => decide (q ∈ l)) = false := by
    rw [List.all_eq_false]
    refine ⟨_, List.mem_iff_getElem.2 ⟨k, by simp; omega, rfl⟩, ?_⟩
    simpa using h
  rw [this]; simp
theorem pair_yes {g : Graph} {l : List (Int × Int)} {p : Int × Int} (h1 : inG g p.1 = true) (h2 : inG g p.2 = true) (h3 : agreeT (getT g p.1.toNat) (getT g p.2.toNat) = true) {k : Nat} (hk : ¬ k < (refsL (getT g p.1.toNat)).length)
    (h : ∀ i (h1 : i < (refsL (getT g p.1.toNat)).length) (h2 : i < (refsL (getT g p.2.toNat)).length), i < k → ((refsL (getT g p.1.toNat))[i], (refsL (getT g p.2.toNat))[i]) ∈ l) : pairB g l p = true := by
  unfold pairB refsP
  rw [h1, h2, h3]
  simp only [Bool.true_and, List.all_eq_true, decide_eq_true_eq]
  intro q hq
  obtain ⟨i, hi, rfl⟩ := List.mem_iff_getElem.1 hq
  simp only [List.length_zip] at hi
  rw [List.getElem_zip]
  exact h i (by omega) (by omega) (by omega)
/-- the graph's box and the set of pairs -/
structure CeSt (w : World) (bg mb : Nat) (gv : Value) (f : Int × Int → Option Value) (wr : World) : Prop where
  ext : Ext w wr
  box : wr.heap[bg]? = some (.cells #[gv] 77 (0, 0))
  map : MapS pairK wr mb f
  nb : w.heap.size ≤ mb ∧ bg ≠ mb
theorem CeSt.later {w wr wr' : World} {bg mb : Nat} {gv : Value} {f : Int × Int → Option Value} (h : CeSt w bg mb gv f wr) (hx : Ext wr wr') : CeSt w bg mb gv f wr' :=
  ⟨h.ext.trans hx, hx.heap h.box, h.map.ext hx, h.nb⟩
theorem CeSt.put {w wr wr' : World} {bg mb : Nat} {gv : Value} {f f' : Int × Int → Option Value} (h : CeSt w bg mb gv f wr) (hg : wr.grownBy wr' (some mb)) (hm : MapS pairK wr' mb f') : CeSt w bg mb gv f' wr' :=
  ⟨Below.grown h.ext hg h.ext.size (fun k hk => by cases hk; exact h.nb.1), (hg.block bg (Array.getElem?_eq_some_iff.1 h.box).1 (by simpa using h.nb.2)).trans h.box, hm, h.nb⟩
end Go.Proofs.YtldnjnnhfeobdaaGreatDoor
