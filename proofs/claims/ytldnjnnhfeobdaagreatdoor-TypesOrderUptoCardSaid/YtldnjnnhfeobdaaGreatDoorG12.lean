/- What the reference's search keeps in memory: the spots to do, the pairs seen; how appends change it. No condition. -/
import Derived.Test.YtldnjnnhfeobdaaGreatDoorG09
import Derived.Test.YtldnjnnhfeobdaaGreatDoorG11
import Derived.Test.YtldnjnnhfeobdaaGreatDoorG07
namespace Go.Proofs.YtldnjnnhfeobdaaGreatDoor
set_option linter.all false
set_option linter.unusedSimpArgs false
set_option linter.unusedVariables false
open Go.RowKit Go.Shelf

theorem slice89 : SliceOf Tryz.prog 89 88 3 40 := .mk' Tryz.underlying89 (by kernel_rfl)
theorem slice56 : SliceOf Tryz.prog 56 61 2 16 := .mk' Tryz.underlying56 (by kernel_rfl)
theorem flat_pair : FlatE pairE := fun _ _ _ _ _ _ h => h
section
variable {α : Type} {F : Nat → Prop} {E : Elt α} {w w' : World} {base : Nat} {e : TypeId} {v : Value} {xs : List α}
theorem Own.keptG {G : Nat → Prop} (h : Own F E w base e v xs) {row : Option Nat} (hg : w.grownBy w' row) (hne : v.ownBlock = none ∨ v.ownBlock ≠ row) (hF : ∀ b, F b → some b ≠ row) (hG : ∀ b, F b → b < w.heap.size → G b) : Own G E w' base e v xs := by
  obtain ⟨rows, hl, hq, hr⟩ := h
  exact ⟨rows, hl, hq.kept hg hne, fun i x r h1 h2 => E.mono _ _ _ _ _ _ (fun b hb hlt => hg.block b hlt (hF b hb.1)) (fun b hb hlt => ⟨hG b hb.1 hlt, hb.2⟩) (hr i x r h1 h2)⟩
theorem Own.keptFlat (hflat : FlatE E) (h : Own F E w base e v xs) {row : Option Nat} (hg : w.grownBy w' row) (hne : v.ownBlock = none ∨ v.ownBlock ≠ row) : Own F E w' base e v xs := by
  obtain ⟨rows, hl, hq, hr⟩ := h
  exact ⟨rows, hl, hq.kept hg hne, fun i x r h1 h2 => hflat _ _ _ _ _ _ (hr i x r h1 h2)⟩
theorem Own.pushed {y : α} {news : List Value} {v' : Value} {rows : List (List Value)} (hl : rows.length = xs.length) (hr : ∀ (i : Nat) (x : α) (r : List Value), xs[i]? = some x → rows[i]? = some r → E.rel (fun b => F b ∧ some b ≠ v.ownBlock) w x r)
    (hy : E.rel (fun b => F b ∧ some b ≠ v.ownBlock) w y news) (hq : w'.ownsRow base e E.k v' (xs.length + 1) (rows.flatten ++ news)) (hg : w.grownBy w' v.ownBlock) (hat : v'.ownBlock = v.ownBlock ∨ ∃ b, v'.ownBlock = some b ∧ w.heap.size ≤ b) :
    Own F E w' base e v' (xs ++ [y]) := by
  have keep : ∀ x2 r2, E.rel (fun b => F b ∧ some b ≠ v.ownBlock) w x2 r2 → E.rel (fun b => F b ∧ some b ≠ v'.ownBlock) w' x2 r2 := by
    intro x2 r2 h3
    refine E.mono _ _ _ _ _ _ (fun b hb hbl => hg.block b hbl hb.2) (fun b hb hbl => ⟨hb.1, ?_⟩) h3
    rcases hat with hat | ⟨b', hat, hle⟩
    · rw [hat]; exact hb.2
    · rw [hat]; intro e; injection e with e; omega
  refine ⟨rows ++ [news], by simp [hl], by simpa using hq, fun i x r h1 h2 => ?_⟩
  by_cases hk : i < xs.length
  · rw [List.getElem?_append_left hk] at h1
    rw [List.getElem?_append_left (by omega)] at h2
    exact keep _ _ (hr i x r h1 h2)
  · rw [List.getElem?_append_right (by omega)] at h1
    rw [List.getElem?_append_right (by omega), hl] at h2
    have hk0 : i - xs.length = 0 := by have := (List.getElem?_eq_some_iff.1 h1).1; simp at this; omega
    rw [hk0] at h1 h2
    simp at h1 h2
    subst h1 h2
    exact keep _ _ hy
end
/-- append of one element to a row of the call's own, in a region that draws its order -/
theorem step_append_own {P : Program} {ops : Array Oper} {o : Oper} {a : Act} {w : World} {K : Act → World → Prop} {Q : Exit → Act → World → Prop} {E : Prop}
    (hg : o.guard = none) (s x : Operand) (t : TypeId) (hop : o.op = Op.call { callee := Callee.builtin Builtin.append, args := #[s, x], argTypes := #[t, t] })
    (base k : Nat) (e : TypeId) (i : TypeInfo) (z : Value) (bytes : Nat) (ht : P.underlying t = some (.slice e)) (hi : P.info? e = some i) (hz : i.zero = some z) (hsize : i.size = k) (hby : i.bytes = bytes) (hzs : z.cells.size = k) (hsz : 0 < k)
    (v : Value) (n : Nat) (xs : List Value) (hs : a.eval s = v) (h : w.ownsRow base e k v n xs) (hbase : base ≤ w.heap.size)
    (ad : Addr) (c : Nat) (news : List Value) (hx : a.eval x = .slice (some ad) 1 c) (hl : news.length = k) (hnews : ∀ j u, news[j]? = some u → w.cell? (ad.add j) = some u) (h1 : ∀ u ∈ news, u.oneCell' = true)
    (h63 : n + 1 ≤ maxLen) (hbytes : (n + 1) * bytes ≤ 140737488355328)
    (hK : ∀ v' w', w'.ownsRow base e k v' (n + 1) (xs ++ news) → w.grownBy w' v.ownBlock → (v'.ownBlock = v.ownBlock ∨ ∃ b, v'.ownBlock = some b ∧ w.heap.size ≤ b) → K (a.put o.dst v') w') :
    if Region.wanted o (yielded ops a.tmps) = true then Oper.wp P o a w K Q else E := by
  have hw : Region.wanted o (yielded ops a.tmps) = true := by simp [Region.wanted, hg]
  rw [if_pos hw]
  obtain ⟨v', w', hrun, h2, h3, _, h5⟩ := run_append_own_at (P := P) w base t o.type e i z k bytes ht hi hz hsize hby hzs hsz v n xs h ad 1 c news (by rw [hl, Nat.one_mul]) hnews h1 h63 hbytes hbase
  unfold Oper.wp execOp
  simp only [hop, resolve, invoke, builtin, Sem.run_bind, Sem.run_pure, Result.andThen_ok, List.map_toArray, List.map_cons, List.map_nil, hs, hx, hrun]
  refine hK v' w' h2 h3 ?_
  rcases h5 with h5 | h5
  · exact .inl h5
  · exact .inr ⟨_, h5, Nat.le_refl _⟩

/-! ### the state of the search -/
def Off (v u : Value) : Nat → Prop := fun b => some b ≠ v.ownBlock ∧ some b ≠ u.ownBlock
structure SSt (w : World) (T : List Spot) (S : List (Nat × Nat)) (vt vs : Value) (wr : World) : Prop where
  ext : Ext w wr
  todo : Own (fun b => some b ≠ vs.ownBlock) spotE wr w.heap.size 88 vt T
  seen : Own Any pairE wr w.heap.size 61 vs (S.map castP)
  ne : ∀ b, vt.ownBlock = some b → vs.ownBlock ≠ some b
variable {w wr wr' : World} {T : List Spot} {S : List (Nat × Nat)} {vt vs : Value}
theorem SSt.later (h : SSt w T S vt vs wr) (hx : Ext wr wr') : SSt w T S vt vs wr' := ⟨h.ext.trans hx, h.todo.kept hx, h.seen.kept hx, h.ne⟩
theorem SSt.ne1 (h : SSt w T S vt vs wr) : vt.ownBlock = none ∨ vt.ownBlock ≠ vs.ownBlock := by
  cases e : vt.ownBlock with
  | none => exact .inl rfl
  | some b => exact .inr fun h2 => h.ne b e h2.symm
theorem SSt.ne2 (h : SSt w T S vt vs wr) : vs.ownBlock = none ∨ vs.ownBlock ≠ vt.ownBlock := by
  cases e : vs.ownBlock with
  | none => exact .inl rfl
  | some b => exact .inr fun h2 => h.ne b h2.symm e
/-- a round of the search: the spot that is looked at, in its box, and the references of its types -/
structure USt (w : World) (bx : Nat) (x : Spot) (rp rq : List Nat) (vw va vb : Value) (T : List Spot) (S : List (Nat × Nat)) (vt vs : Value) (wr : World) : Prop where
  st : SSt w T S vt vs wr
  box : wr.heap[bx]? = some (.cells #[.int .i64 (x.1.1 : Int), .int .i64 (x.1.2 : Int), vw] 88 (0, 0))
  way : SlF (Off vt vs) intE wr vw (x.2.map fun (n : Nat) => (n : Int))
  la : SlF (Off vt vs) intE wr va (rp.map fun (n : Nat) => (n : Int))
  lb : SlF (Off vt vs) intE wr vb (rq.map fun (n : Nat) => (n : Int))
  nbx : w.heap.size ≤ bx ∧ Off vt vs bx
variable {bx : Nat} {x : Spot} {rp rq : List Nat} {vw va vb : Value}
theorem USt.later (h : USt w bx x rp rq vw va vb T S vt vs wr) (hx : Ext wr wr') : USt w bx x rp rq vw va vb T S vt vs wr' :=
  ⟨h.st.later hx, hx.heap h.box, h.way.ext hx, h.la.ext hx, h.lb.ext hx, h.nbx⟩
theorem USt.lt (h : USt w bx x rp rq vw va vb T S vt vs wr) : bx < wr.heap.size := (Array.getElem?_eq_some_iff.1 h.box).1
/-- another own block, old or new, in the place of one -/
theorem off_new {v v' u : Value} {n b : Nat} (hat : v'.ownBlock = v.ownBlock ∨ ∃ b, v'.ownBlock = some b ∧ n ≤ b) (hb : some b ≠ v.ownBlock) (hlt : b < n) : some b ≠ v'.ownBlock := by
  rcases hat with h | ⟨c, h, hle⟩
  · rw [h]; exact hb
  · rw [h]; intro e; injection e with e; omega
theorem USt.see (h : USt w bx x rp rq vw va vb T S vt vs wr) {w5 : World} {vs' : Value} {p : Nat × Nat} {rows : List (List Value)} (hl : rows.length = (S.map castP).length)
    (hr : ∀ (i : Nat) (x : Int × Int) (r : List Value), (S.map castP)[i]? = some x → rows[i]? = some r → pairE.rel (fun b => Any b ∧ some b ≠ vs.ownBlock) wr x r) {w4 : World} (hx4 : Ext wr w4)
    (hq : w5.ownsRow w.heap.size 61 2 vs' ((S.map castP).length + 1) (rows.flatten ++ [.int .i64 (p.1 : Int), .int .i64 (p.2 : Int)])) (hg : w4.grownBy w5 vs.ownBlock) (hat : vs'.ownBlock = vs.ownBlock ∨ ∃ b, vs'.ownBlock = some b ∧ w4.heap.size ≤ b) :
    USt w bx x rp rq vw va vb T (S ++ [p]) vt vs' w5 := by
  have h4 := h.later hx4
  have hoff : ∀ b, Off vt vs b → b < w4.heap.size → Off vt vs' b := fun b hb hlt => ⟨hb.1, off_new (v' := vs') (u := vs) hat hb.2 hlt⟩
  refine ⟨⟨Below.grown h4.st.ext hg h4.st.ext.size (fun b hb => (h4.st.seen.lt b hb).1), ?_, ?_, ?_⟩, ?_, ?_, ?_, ?_, ?_⟩
  · refine h4.st.todo.keptG hg h4.st.ne1 (fun b hb => hb) fun b hb hlt => ?_
    exact off_new (v' := vs') (u := vs) hat hb hlt
  · have := Own.pushed (E := pairE) (F := Any) (y := castP p) (e := 61) hl (fun i x r h1 h2 => Elt.ext (hr i x r h1 h2) hx4) (show pairE.rel _ w4 (castP p) [.int .i64 (p.1 : Int), .int .i64 (p.2 : Int)] from rfl) hq hg hat
    rw [List.map_append]
    exact this
  · intro b hb e
    have hb2 := (h4.st.todo.lt b hb).2
    exact off_new (v' := vs') (u := vs) hat (fun e2 => h4.st.ne b hb e2.symm) hb2 e.symm
  · rw [hg.block bx h4.lt (h4.nbx.2.2)]; exact h4.box
  · exact h4.way.mono (fun b hb hlt => hg.block b hlt hb.2) hoff
  · exact h4.la.mono (fun b hb hlt => hg.block b hlt hb.2) hoff
  · exact h4.lb.mono (fun b hb hlt => hg.block b hlt hb.2) hoff
  · exact ⟨h4.nbx.1, hoff bx h4.nbx.2 h4.lt⟩
theorem USt.push (h : USt w bx x rp rq vw va vb T S vt vs wr) {w4 w5 : World} {v1 vt' : Value} {p : Nat × Nat} {way : List Nat} {rows : List (List Value)} (hl : rows.length = T.length)
    (hr : ∀ (i : Nat) (y : Spot) (r : List Value), T[i]? = some y → rows[i]? = some r → spotE.rel (fun b => some b ≠ vs.ownBlock ∧ some b ≠ vt.ownBlock) wr y r) (hx4 : Ext wr w4)
    (hv1 : SlF (New wr) intE w4 v1 (way.map fun (n : Nat) => (n : Int)))
    (hq : w5.ownsRow w.heap.size 88 3 vt' (T.length + 1) (rows.flatten ++ [.int .i64 (p.1 : Int), .int .i64 (p.2 : Int), v1])) (hg : w4.grownBy w5 vt.ownBlock) (hat : vt'.ownBlock = vt.ownBlock ∨ ∃ b, vt'.ownBlock = some b ∧ w4.heap.size ≤ b) :
    USt w bx x rp rq vw va vb (T ++ [(p, way)]) S vt' vs w5 := by
  have h4 := h.later hx4
  have hoff : ∀ b, Off vt vs b → b < w4.heap.size → Off vt' vs b := fun b hb hlt => ⟨off_new (v' := vt') (u := vt) hat hb.1 hlt, hb.2⟩
  have hnew : ∀ b, New wr b → b < w4.heap.size → some b ≠ vs.ownBlock ∧ some b ≠ vt.ownBlock := by
    intro b hb _
    unfold New at hb
    refine ⟨fun e => ?_, fun e => ?_⟩
    · have := (h.st.seen.lt b e.symm).2; omega
    · have := (h.st.todo.lt b e.symm).2; omega
  refine ⟨⟨Below.grown h4.st.ext hg h4.st.ext.size (fun b hb => (h4.st.todo.lt b hb).1), ?_, ?_, ?_⟩, ?_, ?_, ?_, ?_, ?_⟩
  · exact Own.pushed (E := spotE) (F := fun b => some b ≠ vs.ownBlock) (y := (p, way)) (e := 88) hl (fun i x r h1 h2 => Elt.ext (hr i x r h1 h2) hx4) ⟨v1, rfl, hv1.mono (fun _ _ _ => rfl) hnew⟩ hq hg hat
  · exact h4.st.seen.keptFlat flat_pair hg h4.st.ne2
  · intro b hb e
    rcases hat with h5 | ⟨c, h5, hle⟩
    · exact h4.st.ne b (by rw [← h5]; exact hb) e
    · rw [h5] at hb
      injection hb with hb
      have := (h4.st.seen.lt b e).2
      omega
  · rw [hg.block bx h4.lt (h4.nbx.2.1)]; exact h4.box
  · exact h4.way.mono (fun b hb hlt => hg.block b hlt hb.1) hoff
  · exact h4.la.mono (fun b hb hlt => hg.block b hlt hb.1) hoff
  · exact h4.lb.mono (fun b hb hlt => hg.block b hlt hb.1) hoff
  · exact ⟨h4.nbx.1, hoff bx h4.nbx.2 h4.lt⟩
/-! ### its sizes -/
structure RInvA (n : Nat) (ag : Nat → Nat → Bool) (rf : Nat → List Nat) (dn o : List Spot) (S : List (Nat × Nat)) : Prop where
  rng : ∀ e ∈ dn ++ o, e.1.1 < n ∧ e.1.2 < n
  nodup : S.Nodup
  srng : ∀ p ∈ S, p.1 < n ∧ p.2 < n
  eq : (dn ++ o).length = S.length + 1
  le : ∀ e ∈ dn ++ o, e.2.length ≤ dn.length
theorem RInvA.init {n a b : Nat} {ag : Nat → Nat → Bool} {rf : Nat → List Nat} (ha : a < n) (hb : b < n) : RInvA n ag rf [] [((a, b), [])] [] :=
  ⟨fun e he => by simp at he; subst he; exact ⟨ha, hb⟩, by simp, fun p hp => by simp at hp, rfl, fun e he => by simp at he; subst he; simp⟩
theorem RInvA.step {n : Nat} {ag : Nat → Nat → Bool} {rf : Nat → List Nat} {dn o : List Spot} {S : List (Nat × Nat)} {x : Spot} (G : AbsGraph n ag rf) (I : RInvA n ag rf dn (x :: o) S) :
    RInvA n ag rf (dn ++ [x]) (pushN x.2 0 (kidsN rf x.1) S o).2 (pushN x.2 0 (kidsN rf x.1) S o).1 := by
  obtain ⟨new, hp, hnew, _, hnd⟩ := pushN_spec x.2 (kidsN rf x.1) 0 S o
  rw [hp]
  have hx := I.rng x (by simp)
  have hk : ∀ c ∈ kidsN rf x.1, c.1 < n ∧ c.2 < n := by
    intro c hc
    have h1 := List.of_mem_zip (show (c.1, c.2) ∈ (rf x.1.1).zip (rf x.1.2) from hc)
    exact ⟨G.rng _ hx.1 _ h1.1, G.rng _ hx.2 _ h1.2⟩
  have hnr : ∀ e ∈ new, e.1.1 < n ∧ e.1.2 < n := by
    intro e he
    obtain ⟨_, m, hm, h1, _⟩ := hnew e he
    rw [h1]
    exact hk _ (List.getElem_mem hm)
  have hxl := I.le x (by simp)
  refine ⟨fun e he => ?_, hnd I.nodup, fun p hp => ?_, ?_, fun e he => ?_⟩
  · simp only [List.mem_append, List.mem_singleton] at he
    rcases he with (he | rfl) | he | he
    · exact I.rng e (by simp [he])
    · exact hx
    · exact I.rng e (by simp [he])
    · exact hnr e he
  · rcases List.mem_append.1 hp with hp | hp
    · exact I.srng p hp
    · obtain ⟨e, he, rfl⟩ := List.mem_map.1 hp
      exact hnr e he
  · have := I.eq
    simp at this ⊢
    omega
  · rw [List.length_append, List.length_singleton]
    simp only [List.mem_append, List.mem_singleton] at he
    rcases he with (he | rfl) | he | he
    · have := I.le e (by simp [he]); omega
    · omega
    · have := I.le e (by simp [he]); omega
    · obtain ⟨_, m, hm, _, h2⟩ := hnew e he
      rw [h2, List.length_append, List.length_singleton]
      omega
theorem RInvA.bound {n : Nat} {ag : Nat → Nat → Bool} {rf : Nat → List Nat} {dn o : List Spot} {S : List (Nat × Nat)} (I : RInvA n ag rf dn o S) (hn : n ≤ 400) : (dn ++ o).length ≤ 160001 ∧ S.length ≤ 160000 := by
  have h1 := pairs_le I.nodup I.srng
  have h2 : n * n ≤ 400 * 400 := Nat.mul_le_mul hn hn
  have := I.eq
  omega
end Go.Proofs.YtldnjnnhfeobdaaGreatDoor
