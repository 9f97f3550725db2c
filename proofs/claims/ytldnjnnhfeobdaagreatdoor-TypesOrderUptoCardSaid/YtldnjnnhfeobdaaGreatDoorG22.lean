/- Parts of the proof, joined: A graph that the call itself lays, type by type: rows of ten cells in one block. No condition; append of a whole slice whose elements refer to other memory, at a step of a region that draws its order. No condition; The graphs that the law TypesOrder makes: another order, a twin behind all others. No program. No condition; The law TypesOrder returns true. Conditions: a tidy graph. -/
import Derived.Test.YtldnjnnhfeobdaaGreatDoorG17
import Derived.Test.YtldnjnnhfeobdaaGreatDoorG08
import Derived.Test.YtldnjnnhfeobdaaGreatDoorG10
import Derived.Test.YtldnjnnhfeobdaaGreatDoorG06
import Derived.Test.YtldnjnnhfeobdaaGreatDoorG13
namespace Go.Proofs.YtldnjnnhfeobdaaGreatDoor
set_option linter.all false
set_option linter.unusedSimpArgs false
set_option linter.unusedVariables false
open Go.RowKit Go.Shelf

def setL : List Value → Nat → List Value → List Value
  | L, _, [] => L
  | L, o, v :: vs => setL (L.set o v) (o + 1) vs
theorem setL_at : ∀ (vs A B : List Value), vs.length ≤ B.length → setL (A ++ B) A.length vs = A ++ (vs ++ B.drop vs.length)
  | [], A, B, _ => by simp [setL]
  | v :: vs, A, [], h => by simp at h
  | v :: vs, A, b :: B, h => by
    unfold setL
    have e : (A ++ b :: B).set A.length v = (A ++ [v]) ++ B := by simp
    have h2 := setL_at vs (A ++ [v]) B (by simpa using h)
    rw [e, show A.length + 1 = (A ++ [v]).length by simp, h2]
    simp
theorem heap_setCells {b : Nat} {ty : TypeId} {fr : Nat × Nat} : ∀ (vs : List Value) (o : Nat) (w : World) (L : List Value), w.heap[b]? = some (.cells L.toArray ty fr) → (w.setCells b o vs).heap[b]? = some (.cells (setL L o vs).toArray ty fr)
  | [], o, w, L, h => h
  | v :: vs, o, w, L, h => by
    have h1 := heap_set h o v
    rw [List.setIfInBounds_toArray] at h1
    exact heap_setCells vs (o + 1) _ _ h1
theorem flatten_set {k : Nat} : ∀ (rows : List (List Value)) (j : Nat) (r : List Value), (∀ s ∈ rows, s.length = k) → j < rows.length → (rows.set j r).flatten = rows.flatten.take (j * k) ++ (r ++ rows.flatten.drop (j * k + k))
  | [], j, r, _, h => by simp at h
  | s :: rows, 0, r, hk, _ => by
    have hs : s.length = k := hk s (by simp)
    simp [← hs]
  | s :: rows, j + 1, r, hk, h => by
    have hs : s.length = k := hk s (by simp)
    have ih := flatten_set rows j r (fun x hx => hk x (by simp [hx])) (by simpa using h)
    rw [List.set_cons_succ, List.flatten_cons, ih, List.flatten_cons]
    have e1 : (j + 1) * k = s.length + j * k := by rw [hs, Nat.add_mul]; omega
    rw [e1, List.take_length_add_append, Nat.add_assoc, List.drop_length_add_append]
    simp
/-- block b begins with the rows of the types -/
def TyRow (F : Nat → Prop) (w : World) (b : Nat) (xs : List Ty) : Prop :=
  ∃ rows rest : List (List Value), rows.length = xs.length ∧ w.heap[b]? = some (.cells (rows.flatten ++ rest.flatten).toArray 42 (0, 0)) ∧
    ∀ (i : Nat) (x : Ty) (r : List Value), xs[i]? = some x → rows[i]? = some r → tyE.rel (fun c => F c ∧ c ≠ b) w x r
section
variable {F : Nat → Prop} {w w' : World} {b : Nat} {xs : List Ty}
theorem TyRow.lt (h : TyRow F w b xs) : b < w.heap.size := by
  obtain ⟨rows, rest, _, hb, _⟩ := h
  exact (Array.getElem?_eq_some_iff.1 hb).1
theorem TyRow.ext (h : TyRow F w b xs) (hx : Ext w w') : TyRow F w' b xs := by
  obtain ⟨rows, rest, hl, hb, hr⟩ := h
  exact ⟨rows, rest, hl, hx.heap hb, fun i x r h1 h2 => Elt.ext (hr i x r h1 h2) hx⟩
theorem TyRow.other (h : TyRow F w b xs) {b' : Nat} (hne : b ≠ b') (hF : ∀ c, F c → c ≠ b') (i : Nat) (v : Value) : TyRow F (w.setCell ⟨b', i, none⟩ v) b xs := by
  obtain ⟨rows, rest, hl, hb, hr⟩ := h
  exact ⟨rows, rest, hl, (Below.heap_setCell _ _ _ _ hne).trans hb, fun i x r h1 h2 => tyE.mono _ _ _ _ _ _ (fun c hc _ => Below.heap_setCell _ _ _ _ (hF c hc.1)) (fun _ h _ => h) (hr i x r h1 h2)⟩
theorem TyRow.rowlen {rows : List (List Value)} (hl : rows.length = xs.length) (hr : ∀ (i : Nat) (x : Ty) (r : List Value), xs[i]? = some x → rows[i]? = some r → tyE.rel (fun c => F c ∧ c ≠ b) w x r) : ∀ r ∈ rows, r.length = 10 := by
  intro r hm
  obtain ⟨i, hi, rfl⟩ := List.mem_iff_getElem.1 hm
  exact tyE.len _ _ _ _ (hr i (xs[i]'(by omega)) rows[i] (List.getElem?_eq_getElem (by omega)) (List.getElem?_eq_getElem hi))
theorem TyRow.frozen (h : TyRow F w b xs) (i : Nat) : w.frozen? ⟨b, i, none⟩ = false := by
  obtain ⟨rows, rest, _, hb, _⟩ := h
  exact heap_frozen hb i
theorem TyRow.at (h : TyRow F w b xs) {j : Nat} (hj : j < xs.length) : ∃ r, tyE.rel (fun c => F c ∧ c ≠ b) w xs[j] r ∧ ∀ i u, r[i]? = some u → w.cell? ⟨b, j * 10 + i, none⟩ = some u := by
  obtain ⟨rows, rest, hl, hb, hr⟩ := h
  have hk := TyRow.rowlen hl hr
  have hrow : rows[j]? = some (rows[j]'(by omega)) := List.getElem?_eq_getElem (by omega)
  refine ⟨_, hr j _ _ (List.getElem?_eq_getElem hj) hrow, fun i u hi => heap_cell hb _ _ ?_⟩
  have hf := flatten_get rows hk j i _ u hrow hi
  rw [List.getElem?_toArray, List.getElem?_append_left (List.getElem?_eq_some_iff.1 hf).1]
  exact hf
theorem TyRow.slF (h : TyRow F w b xs) (hF : F b) {cap : Nat} (hcap : xs.length ≤ cap) : SlF F tyE w (.slice (some ⟨b, 0, none⟩) xs.length cap) xs := by
  refine ⟨_, cap, rfl, fun i x hi => ?_⟩
  have hlt : i < xs.length := (List.getElem?_eq_some_iff.1 hi).1
  obtain ⟨r, hr, hc⟩ := h.at hlt
  have hx : xs[i] = x := (List.getElem?_eq_some_iff.1 hi).2
  rw [hx] at hr
  exact ⟨b, 0, r, rfl, ⟨hF, hcap⟩, tyE.mono _ _ _ _ _ _ (fun _ _ _ => rfl) (fun _ h _ => h.1) hr, fun j u hj => by rw [Nat.zero_add]; exact hc j u hj⟩
theorem TyRow.set (h : TyRow F w b xs) {j : Nat} (hj : j < xs.length) {y : Ty} {cs : List Value} (hy : tyE.rel (fun c => F c ∧ c ≠ b) w y cs) : TyRow F (w.setCells b (j * 10) cs) b (xs.set j y) := by
  obtain ⟨rows, rest, hl, hb, hr⟩ := h
  have hk := TyRow.rowlen hl hr
  have hcs : cs.length = 10 := tyE.len _ _ _ _ hy
  have hlen := flatten_len rows hk
  have keep : ∀ x r, tyE.rel (fun c => F c ∧ c ≠ b) w x r → tyE.rel (fun c => F c ∧ c ≠ b) (w.setCells b (j * 10) cs) x r := fun x r hx =>
    tyE.mono _ _ _ _ _ _ (fun c hc hlt => (setCells_grown b cs (j * 10) w).block c hlt (by intro e; injection e with e; exact hc.2 e)) (fun _ h _ => h) hx
  refine ⟨rows.set j cs, rest, by simp [hl], ?_, fun i x r h1 h2 => ?_⟩
  · have hle : j * 10 + 10 ≤ rows.flatten.length := by rw [hlen]; omega
    have h2 := heap_setCells cs (j * 10) w _ hb
    have e : setL (rows.flatten ++ rest.flatten) (j * 10) cs = (rows.set j cs).flatten ++ rest.flatten := by
      have h3 := setL_at cs (rows.flatten.take (j * 10)) (rows.flatten.drop (j * 10) ++ rest.flatten) (by rw [hcs, List.length_append, List.length_drop]; omega)
      rw [← List.append_assoc, List.take_append_drop, List.length_take, Nat.min_eq_left (by omega)] at h3
      rw [h3, flatten_set rows j cs hk (by omega), hcs, List.drop_append_of_le_length (by rw [List.length_drop]; omega), List.drop_drop]
      simp
    rw [e] at h2
    exact h2
  · by_cases hij : i = j
    · subst hij
      rw [List.getElem?_set_self (by omega)] at h1 h2
      injection h1 with h1
      injection h2 with h2
      subst h1 h2
      exact keep _ _ hy
    · rw [List.getElem?_set_ne (fun e => hij e.symm)] at h1 h2
      exact keep _ _ (hr i x r h1 h2)
theorem TyRow.of_own {base : Nat} {v : Value} (h : Own F tyE w base 42 v xs) (hne : 0 < xs.length) : ∃ g cap, v = .slice (some ⟨g, 0, none⟩) xs.length cap ∧ base ≤ g ∧ xs.length ≤ cap ∧ TyRow F w g xs := by
  obtain ⟨rows, hl, ho, hr⟩ := h
  rcases ho.2 with ⟨rfl, h0⟩ | ⟨g, cap, cur, rfl, hg, hb, hle, _, hsz, ht⟩
  · omega
  · refine ⟨g, cap, rfl, hg, hle, rows, [cur.toList.drop (xs.length * 10)], hl, ?_, fun i x r h1 h2 => ?_⟩
    · have e : rows.flatten ++ [cur.toList.drop (xs.length * 10)].flatten = cur.toList := by
        rw [← ht]; simp [tyE]
      rw [e]; simpa using hb
    · exact tyE.mono _ _ _ _ _ _ (fun _ _ _ => rfl) (fun c hc _ => ⟨hc.1, fun e => hc.2 (by rw [e]; rfl)⟩) (hr i x r h1 h2)
end
theorem Kb.set10 {lo o : Nat} {w w' : World} (h : Kb lo o w w') (i0 i1 i2 i3 i4 i5 i6 i7 i8 i9 : Nat) (v0 v1 v2 v3 v4 v5 v6 v7 v8 v9 : Value) : Kb lo o w ((((((((((w'.setCell ⟨o, i0, none⟩ v0).setCell ⟨o, i1, none⟩ v1).setCell ⟨o, i2, none⟩ v2).setCell ⟨o, i3, none⟩ v3).setCell ⟨o, i4, none⟩ v4).setCell ⟨o, i5, none⟩ v5).setCell ⟨o, i6, none⟩ v6).setCell ⟨o, i7, none⟩ v7).setCell ⟨o, i8, none⟩ v8).setCell ⟨o, i9, none⟩ v9) := ((((((((((h.set i0 v0).set i1 v1).set i2 v2).set i3 v3).set i4 v4).set i5 v5).set i6 v6).set i7 v7).set i8 v8).set i9 v9)
theorem row_store {F : Nat → Prop} {w0 w : World} {b c j : Nat} {xs : List Ty} {ts : List Nat} {y : Ty} {v0 v1 v2 v3 v4 v5 v6 v7 v8 v9 : Value} (hx : Ext w0 w) (hb : w0.heap.size ≤ b) (h : TyRow F w b xs) (hI : IntRow w c ts) (hne : c ≠ b) (hj : j < xs.length) (hy : tyE.rel (fun c => F c ∧ c ≠ b) w y [v0, v1, v2, v3, v4, v5, v6, v7, v8, v9]) :
    Ext w0 ((((((((((w.setCell ⟨b, j * 10, none⟩ v0).setCell ⟨b, j * 10 + 1, none⟩ v1).setCell ⟨b, j * 10 + 2, none⟩ v2).setCell ⟨b, j * 10 + 3, none⟩ v3).setCell ⟨b, j * 10 + 4, none⟩ v4).setCell ⟨b, j * 10 + 5, none⟩ v5).setCell ⟨b, j * 10 + 6, none⟩ v6).setCell ⟨b, j * 10 + 7, none⟩ v7).setCell ⟨b, j * 10 + 8, none⟩ v8).setCell ⟨b, j * 10 + 9, none⟩ v9) ∧ TyRow F ((((((((((w.setCell ⟨b, j * 10, none⟩ v0).setCell ⟨b, j * 10 + 1, none⟩ v1).setCell ⟨b, j * 10 + 2, none⟩ v2).setCell ⟨b, j * 10 + 3, none⟩ v3).setCell ⟨b, j * 10 + 4, none⟩ v4).setCell ⟨b, j * 10 + 5, none⟩ v5).setCell ⟨b, j * 10 + 6, none⟩ v6).setCell ⟨b, j * 10 + 7, none⟩ v7).setCell ⟨b, j * 10 + 8, none⟩ v8).setCell ⟨b, j * 10 + 9, none⟩ v9) b (xs.set j y) ∧ IntRow ((((((((((w.setCell ⟨b, j * 10, none⟩ v0).setCell ⟨b, j * 10 + 1, none⟩ v1).setCell ⟨b, j * 10 + 2, none⟩ v2).setCell ⟨b, j * 10 + 3, none⟩ v3).setCell ⟨b, j * 10 + 4, none⟩ v4).setCell ⟨b, j * 10 + 5, none⟩ v5).setCell ⟨b, j * 10 + 6, none⟩ v6).setCell ⟨b, j * 10 + 7, none⟩ v7).setCell ⟨b, j * 10 + 8, none⟩ v8).setCell ⟨b, j * 10 + 9, none⟩ v9) c ts := by
  have hg := setCells_grown b [v0, v1, v2, v3, v4, v5, v6, v7, v8, v9] (j * 10) w
  have h1 := h.set hj hy
  refine ⟨Below.grown hx hg hx.size (fun k hk => by injection hk with hk; omega), h1, ?_⟩
  exact (hg.block c hI.lt (by intro e; injection e with e; exact hne e)).trans hI
/-! ### made of nothing -/
def zeroRow : List Value := [.int .u8 0, .int .i64 0, .int .i64 0, .bool false, .string ⟨#[]⟩, .string ⟨#[]⟩, .int .i64 0, .slice none 0 0, .slice none 0 0, .slice none 0 0]
def zeroTys (n : Nat) : Obj := .cells (List.replicate n zeroRow).flatten.toArray 42
theorem info42 : (Tryz.prog.info? 42).map (fun i => (i.zero.map (·.cells.toList), i.size, i.bytes)) = some (some zeroRow, 10, 144) := by kernel_rfl
theorem make_graph (w : World) (n : Nat) (hn : n ≤ 1048576) : (Instr.makeSlice 23 (.int .i64 (n : Int)) (.int .i64 (n : Int))).run Tryz.prog w = .ok (.slice (some ⟨w.heap.size, 0, none⟩) n n) (w.alloc (zeroTys n)) := by
  obtain ⟨i, hi, he⟩ := Option.map_eq_some_iff.1 info42
  simp only [Prod.mk.injEq] at he
  obtain ⟨hz, hs, hb⟩ := he
  obtain ⟨z, hz, hzc⟩ := Option.map_eq_some_iff.1 hz
  have h := run_makeSlice (P := Tryz.prog) (w := w) 23 42 i z Tryz.underlying23 hi hz .i64 .i64 n n (by omega) (by omega) (by rw [hs, Int.toNat_natCast]; omega) (by rw [hb]; omega) (by omega)
  rw [h, Int.toNat_natCast, hs]
  have e : madeCells z.cells (n * 10) = (List.replicate n zeroRow).flatten.toArray := by
    have hz2 : z.cells = zeroRow.toArray := by rw [← hzc]
    have hk : ∀ r ∈ List.replicate n zeroRow, r.length = 10 := by
      intro r hr
      rw [List.eq_of_mem_replicate hr]; rfl
    have hlen := flatten_len _ hk
    rw [List.length_replicate] at hlen
    refine Array.ext (by rw [size_madeCells]; simp [hlen]) fun k h1 h2 => ?_
    rw [size_madeCells] at h1
    have h3 : (List.replicate n zeroRow)[k / 10]? = some zeroRow := by rw [List.getElem?_replicate, if_pos (by omega)]
    have h4 : zeroRow[k % 10]? = some (zeroRow[k % 10]'(by show k % 10 < 10; omega)) := List.getElem?_eq_getElem _
    have h5 := flatten_get _ hk _ _ _ _ h3 h4
    rw [show k / 10 * 10 + k % 10 = k by omega] at h5
    have h6 : ((List.replicate n zeroRow).flatten.toArray)[k] = zeroRow[k % 10]'(by show k % 10 < 10; omega) := by
      rw [List.getElem_toArray]
      exact (List.getElem?_eq_some_iff.1 h5).2
    rw [h6]
    unfold madeCells
    simp only [Array.getElem_map, Array.getElem_range, hz2]
    have h7 : zeroRow.toArray.size = 10 := rfl
    rw [h7]
    exact (getElem!_pos zeroRow.toArray (k % 10) (by rw [h7]; omega)).trans (by rw [List.getElem_toArray])
  rw [e]
  rfl
theorem TyRow.made (F : Nat → Prop) (w : World) (n : Nat) : TyRow F (w.alloc (zeroTys n)) w.heap.size (List.replicate n ty0) := by
  refine ⟨List.replicate n zeroRow, [], by simp, by rw [List.flatten_nil, List.append_nil]; exact heap_alloc_self w _, fun i x r h1 h2 => ?_⟩
  rw [List.getElem?_replicate] at h1 h2
  split at h1
  · rename_i hi
    rw [if_pos hi] at h2
    injection h1 with h1
    injection h2 with h2
    subst h1 h2
    exact ⟨_, _, _, rfl, SlF.nil _ _ _, SlF.nil _ _ _, SlF.nil _ _ _⟩
  · cases h1
end Go.Proofs.YtldnjnnhfeobdaaGreatDoor
/- append of a whole slice whose elements refer to other memory, at a step of a region that draws its order. No condition. -/
namespace Go.Proofs.YtldnjnnhfeobdaaGreatDoor
set_option linter.all false
set_option linter.unusedSimpArgs false
set_option linter.unusedVariables false
open Go.RowKit Go.Shelf

theorem run_append_sl {P : Program} {α : Type} {F G : Nat → Prop} (E : Elt α) {W : World} (base : Nat) (t ty e : TypeId) (bytes : Nat) (hI : SliceOf P t e E.k bytes)
    (v : Value) (xs ys : List α) (ad : Addr) (n c : Nat) (HO : Own F E W base e v xs) (hy : SlF G E W (.slice (some ad) n c) ys) (hG : ∀ b, G b → b < W.heap.size → F b ∧ some b ≠ v.ownBlock)
    (hbase : base ≤ W.heap.size) (hl : (xs.length + ys.length) * bytes ≤ 140737488355328) (hb0 : 0 < bytes) :
    ∃ v1 w1, (Builtin.append_ #[t, t] ty #[v, .slice (some ad) n c]).run P W = .ok v1 w1 ∧ Own F E w1 base e v1 (xs ++ ys) ∧ W.grownBy w1 v.ownBlock ∧ (v1.ownBlock = v.ownBlock ∨ v1.ownBlock = some W.heap.size) := by
  obtain ⟨i, z, hi, hz, hsz, hby, hzs⟩ := hI.info
  obtain ⟨rows, hrl, hown, hr⟩ := HO
  obtain ⟨A, c', hA, hy⟩ := hy
  injection hA with hA hn hc
  subst hA hn hc
  obtain ⟨rows2, hl2, hr2⟩ := list_choose (β := List Value) ys.length (fun i r => ∃ y, ys[i]? = some y ∧ E.rel G W y r ∧ ∀ j u, r[j]? = some u → W.cell? (ad.add (i * E.k + j)) = some u) (fun i hi => by
    obtain ⟨b, off, cs, hA, _, hrel, hcell⟩ := hy i ys[i] (List.getElem?_eq_getElem hi)
    injection hA with hA
    subst hA
    exact ⟨cs, ys[i], List.getElem?_eq_getElem hi, hrel, fun j u hj => by rw [Addr.add_lit, ← Nat.add_assoc]; exact hcell j u hj⟩)
  have hk : ∀ r ∈ rows2, r.length = E.k := by
    intro r hm
    obtain ⟨i, hi, rfl⟩ := List.mem_iff_getElem.1 hm
    obtain ⟨y, _, hrel, _⟩ := hr2 i _ (List.getElem?_eq_getElem hi)
    exact E.len _ _ _ _ hrel
  have hlen : xs.length + ys.length ≤ 140737488355328 := Nat.le_trans (Nat.le_mul_of_pos_right _ hb0) hl
  obtain ⟨v1, w1, hrun, h2, h3, _, h5⟩ := run_append_own_at (P := P) W base t ty e i z E.k bytes hI.under hi hz hsz hby hzs E.pos v xs.length rows.flatten hown ad ys.length c rows2.flatten (by rw [flatten_len _ hk, hl2])
    (fun j u hj => by
      obtain ⟨r, h1, h2⟩ := flatten_inv E.pos rows2 hk j u hj
      obtain ⟨y, _, _, hcell⟩ := hr2 _ _ h1
      have := hcell _ _ h2
      rwa [Nat.div_add_mod'] at this)
    (fun u hu => by
      obtain ⟨r, hm, hu⟩ := List.mem_flatten.1 hu
      obtain ⟨i, hi, rfl⟩ := List.mem_iff_getElem.1 hm
      obtain ⟨y, _, hrel, _⟩ := hr2 i _ (List.getElem?_eq_getElem hi)
      exact E.one _ _ _ _ hrel u hu) (by simp only [maxLen]; omega) hl hbase
  refine ⟨v1, w1, hrun, ⟨rows ++ rows2, by simp [hrl, hl2], by simpa using h2, ?_⟩, h3, h5⟩
  have hlt := hown.lt
  have keep : ∀ x2 r2, E.rel (fun b => F b ∧ some b ≠ v.ownBlock) W x2 r2 → E.rel (fun b => F b ∧ some b ≠ v1.ownBlock) w1 x2 r2 := by
    intro x2 r2 hx
    refine E.mono _ _ _ _ _ _ (fun b hb hbl => h3.block b hbl hb.2) (fun b hb hbl => ⟨hb.1, ?_⟩) hx
    rcases h5 with h5 | h5
    · rw [h5]; exact hb.2
    · rw [h5]; intro e; injection e with e; omega
  intro k x1 r h1 h2
  by_cases hk' : k < xs.length
  · rw [List.getElem?_append_left hk'] at h1
    rw [List.getElem?_append_left (by omega)] at h2
    exact keep _ _ (hr k x1 r h1 h2)
  · rw [List.getElem?_append_right (by omega)] at h1
    rw [List.getElem?_append_right (by omega), hrl] at h2
    obtain ⟨y, e1, hrel, _⟩ := hr2 _ _ h2
    rw [e1] at h1
    injection h1 with h1
    subst h1
    exact keep _ _ (E.mono _ _ _ _ _ _ (fun _ _ _ => rfl) hG hrel)
/-- the same at a step of a region that draws its order -/
theorem step_append_sl {P : Program} {ops : Array Oper} {o : Oper} {a : Act} {w : World} {K : Act → World → Prop} {Q : Exit → Act → World → Prop} {D : Prop} {α : Type} {F G : Nat → Prop} (E : Elt α)
    (hg : o.guard = none) (s x : Operand) (t e : TypeId) (bytes : Nat) (hop : o.op = Op.call { callee := Callee.builtin Builtin.append, args := #[s, x], argTypes := #[t, t] }) (hI : SliceOf P t e E.k bytes) (base : Nat)
    (v : Value) (xs ys : List α) (ad : Addr) (n c : Nat) (hs : a.eval s = v) (hx : a.eval x = .slice (some ad) n c) (HO : Own F E w base e v xs) (hy : SlF G E w (.slice (some ad) n c) ys)
    (hG : ∀ b, G b → b < w.heap.size → F b ∧ some b ≠ v.ownBlock) (hbase : base ≤ w.heap.size) (hl : (xs.length + ys.length) * bytes ≤ 140737488355328) (hb0 : 0 < bytes)
    (hK : ∀ v1 w1, Own F E w1 base e v1 (xs ++ ys) → w.grownBy w1 v.ownBlock → (v1.ownBlock = v.ownBlock ∨ v1.ownBlock = some w.heap.size) → K (a.put o.dst v1) w1) :
    if Region.wanted o (yielded ops a.tmps) = true then Oper.wp P o a w K Q else D := by
  have hw : Region.wanted o (yielded ops a.tmps) = true := by simp [Region.wanted, hg]
  rw [if_pos hw]
  obtain ⟨v1, w1, hrun, h2, h3, h4⟩ := run_append_sl (P := P) (F := F) (G := G) E base t o.type e bytes hI v xs ys ad n c HO hy hG hbase hl hb0
  unfold Oper.wp execOp
  simp only [hop, resolve, invoke, builtin, Sem.run_bind, Sem.run_pure, Result.andThen_ok, List.map_toArray, List.map_cons, List.map_nil, hs, hx, hrun]
  exact hK v1 w1 h2 h3 h4
/-- a slice of one element, laid in a block of its own -/
theorem sl_one {α : Type} {F : Nat → Prop} {E : Elt α} {w : World} {e : TypeId} {y : α} {news : List Value} (hy : E.rel F w y news) (hF : F w.heap.size) : SlF F E (w.alloc (.cells news.toArray e)) (.slice (some ⟨w.heap.size, 0, none⟩) 1 1) [y] := by
  refine ⟨_, 1, rfl, fun i x hi => ?_⟩
  cases i with
  | zero =>
    simp only [List.getElem?_cons_zero, Option.some.injEq] at hi
    subst hi
    refine ⟨w.heap.size, 0, news, rfl, ⟨hF, Nat.le_refl _⟩, Elt.ext hy ((Ext.refl w).alloc _), fun j u hj => ?_⟩
    rw [Nat.zero_mul, Nat.zero_add]
    simpa using heap_cell (heap_alloc_self w (.cells news.toArray e)) j u (by simpa using hj)
  | succ i => simp at hi
end Go.Proofs.YtldnjnnhfeobdaaGreatDoor
/- The graphs that the law TypesOrder makes: another order, a twin behind all others. No program. No condition. -/
namespace Go.Proofs.YtldnjnnhfeobdaaGreatDoor
set_option linter.all false
set_option linter.unusedSimpArgs false
set_option linter.unusedVariables false
open Go.RowKit

theorem turnT_congr {f f' : Int → Int} {t : Ty} (h : ∀ r ∈ refsL t, f r = f' r) : turnT f t = turnT f' t := by
  have hs : (if hasSuperB t.kind = true then f t.super else t.super) = if hasSuperB t.kind = true then f' t.super else t.super := by
    split
    · rename_i hs; exact h _ (refs_super hs)
    · rfl
  have hp : t.parts.map (turnP f) = t.parts.map (turnP f') := List.map_congr_left fun p hp => by unfold turnP; rw [h _ (refs_part hp)]
  have hm : t.methods.map (turnM f) = t.methods.map (turnM f') := List.map_congr_left fun m hm => by
    have hr := fun r hr => h r (refs_meth hm hr)
    have ha : m.args.map f = m.args.map f' := List.map_congr_left fun r hr' => hr r (by unfold refsM; simp [hr'])
    have hres : (if 0 ≤ m.result then f m.result else m.result) = if 0 ≤ m.result then f' m.result else m.result := by
      split
      · rename_i h0; exact hr _ (by unfold refsM; simp [h0])
      · rfl
    unfold turnM
    rw [ha, hres]
  unfold turnT
  rw [hs, hp, hm]
/-! ### another order -/
def ordTo (n k m : Nat) : List Nat := (List.range n).map fun i => if i < m then (i + k) % n else 0
theorem ordTo_length (n k m : Nat) : (ordTo n k m).length = n := by simp [ordTo]
theorem ordTo_zero (n k : Nat) : ordTo n k 0 = List.replicate n 0 := by
  refine List.ext_getElem (by simp [ordTo]) fun i h1 h2 => ?_
  simp [ordTo]
theorem ordTo_succ {n k m : Nat} (hm : m < n) : (ordTo n k m).set m ((m + k) % n) = ordTo n k (m + 1) := by
  refine List.ext_getElem (by simp [ordTo]) fun i h1 h2 => ?_
  rw [List.getElem_set]
  simp only [ordTo, List.getElem_map, List.getElem_range]
  by_cases e : m = i
  · subst e; rw [if_pos rfl, if_pos (by omega)]
  · rw [if_neg e]
    by_cases h3 : i < m
    · rw [if_pos h3, if_pos (by omega)]
    · rw [if_neg h3, if_neg (by omega)]
theorem ordTo_get {n k i : Nat} (hi : i < n) : (ordTo n k n).getD i 0 = (i + k) % n := by
  simp [ordTo, List.getD_eq_getElem?_getD, hi]
def ordL (g : Graph) (k : Nat) : Nat → List Ty
  | 0 => List.replicate g.length ty0
  | m + 1 => (ordL g k m).set ((m + k) % g.length) (turnT (shiftF g.length k) (getT g m))
theorem ordL_length (g : Graph) (k : Nat) : ∀ m, (ordL g k m).length = g.length
  | 0 => by simp [ordL]
  | m + 1 => by rw [ordL, List.length_set, ordL_length g k m]
theorem ordL_at (g : Graph) (k : Nat) : ∀ m, m ≤ g.length → ∀ i, i < m → (ordL g k m)[(i + k) % g.length]? = some (turnT (shiftF g.length k) (getT g i))
  | 0, _, i, hi => by omega
  | m + 1, hm, i, hi => by
    rw [ordL]
    by_cases e : i = m
    · subst e
      rw [List.getElem?_set_self (by rw [ordL_length]; exact Nat.mod_lt _ (by omega))]
    · rw [List.getElem?_set_ne (fun h => e (shift_inj (by omega) (by omega) h).symm)]
      exact ordL_at g k m (by omega) i (by omega)
theorem ordL_shifted (g : Graph) (k : Nat) : Shifted g (ordL g k g.length) k := ⟨ordL_length g k _, fun i hi => ordL_at g k _ (Nat.le_refl _) i hi⟩
theorem ordL_tidy {g : Graph} (h : Tidy g) (k : Nat) : ∀ m, m ≤ g.length → Tidy (ordL g k m)
  | 0, _ => ⟨by rw [ordL_length]; exact h.len, fun t ht => by
    rw [ordL] at ht
    rw [List.eq_of_mem_replicate ht]
    exact ⟨⟨by decide, by decide, by decide, by simp [ty0], by decide, by simp [ty0], by decide, by simp [ty0]⟩, by decide, by decide⟩⟩
  | m + 1, hm => ⟨by rw [ordL_length]; exact h.len, fun t ht => by
    rw [ordL] at ht
    rcases List.mem_or_eq_of_mem_set ht with ht | rfl
    · exact (ordL_tidy h k m (by omega)).ty t ht
    · obtain ⟨h1, h2⟩ := h.ty _ (getT_mem (show m < g.length by omega))
      exact ⟨small_turn h1, h2⟩⟩
theorem ord_turn {g : Graph} (hg : WF g) (k : Nat) {i : Nat} (hi : i < g.length) : turnT (lookI ((ordTo g.length k g.length).map fun (n : Nat) => (n : Int))) (getT g i) = turnT (shiftF g.length k) (getT g i) := by
  refine turnT_congr fun r hr => ?_
  obtain ⟨h0, h1⟩ := (hg.fine (getT_mem hi)).refs r hr
  unfold lookI shiftF
  have h2 := ordTo_get (n := g.length) (k := k) (i := r.toNat) (by omega)
  have h3 : r.toNat < (ordTo g.length k g.length).length := by rw [ordTo_length]; omega
  rw [List.getD_eq_getElem?_getD, List.getElem?_eq_getElem h3, Option.getD_some] at h2
  rw [List.getD_eq_getElem?_getD, List.getElem?_map, List.getElem?_eq_getElem h3, h2]
  rfl
/-! ### a twin behind all others -/
def twinTo (n k m : Nat) : List Nat := (List.range n).map fun i => if i < m then i else (i + k) % n
theorem twinTo_length (n k m : Nat) : (twinTo n k m).length = n := by simp [twinTo]
theorem twinTo_zero (n k : Nat) : twinTo n k 0 = ordTo n k n := by
  refine List.ext_getElem (by simp [twinTo, ordTo]) fun i h1 h2 => ?_
  have : i < n := by simpa [twinTo] using h1
  simp [twinTo, ordTo, this]
theorem twinTo_succ {n k m : Nat} (hm : m < n) : (twinTo n k m).set m m = twinTo n k (m + 1) := by
  refine List.ext_getElem (by simp [twinTo]) fun i h1 h2 => ?_
  rw [List.getElem_set]
  simp only [twinTo, List.getElem_map, List.getElem_range]
  by_cases e : m = i
  · subst e; rw [if_pos rfl, if_pos (by omega)]
  · rw [if_neg e]
    by_cases h3 : i < m
    · rw [if_pos h3, if_pos (by omega)]
    · rw [if_neg h3, if_neg (by omega)]
theorem twin_turn {g : Graph} (hg : WF g) {k : Nat} (hk : k < g.length) {a : Nat} (ha : a < g.length) :
    turnT (lookI (((twinTo g.length k g.length).set k g.length).map fun (n : Nat) => (n : Int))) (getT g a) = turnT (twinF g.length k) (getT g a) := by
  refine turnT_congr fun r hr => ?_
  obtain ⟨h0, h1⟩ := (hg.fine (getT_mem ha)).refs r hr
  unfold lookI twinF
  have h3 : r.toNat < ((twinTo g.length k g.length).set k g.length).length := by rw [List.length_set, twinTo_length]; omega
  rw [List.getD_eq_getElem?_getD, List.getElem?_map, List.getElem?_eq_getElem h3, List.getElem_set]
  by_cases e : r = (k : Int)
  · subst e; rw [if_pos rfl, if_pos (by simp)]; rfl
  · rw [if_neg e, if_neg (by omega)]
    have : r.toNat < g.length := by omega
    simp only [twinTo, List.getElem_map, List.getElem_range, if_pos this, Option.map_some, Option.getD_some]
    omega
def wideL (g : Graph) (k a : Nat) : List Ty := (g ++ [getT g k]).set a (turnT (twinF g.length k) (getT g a))
theorem wideL_wide (g : Graph) {k a : Nat} (hk : k < g.length) (ha : a < g.length) : Wide g (wideL g k a) k a := by
  refine ⟨by simp [wideL], fun i hi hne => ?_, ?_, ?_⟩
  · unfold wideL
    rw [List.getElem?_set_ne (fun h => hne h.symm), List.getElem?_append_left hi, List.getElem?_eq_getElem hi, getT_lt hi]
  · unfold wideL
    rw [List.getElem?_set_self (by simp; omega)]
  · unfold wideL
    rw [List.getElem?_set_ne (by omega), List.getElem?_append_right (Nat.le_refl _)]
    simp
theorem wideL_tidy {g : Graph} (h : Tidy g) (hn : g.length < 400) {k a : Nat} (hk : k < g.length) (ha : a < g.length) : Tidy (wideL g k a) := by
  refine ⟨by simp [wideL]; omega, fun t ht => ?_⟩
  unfold wideL at ht
  rcases List.mem_or_eq_of_mem_set ht with ht | rfl
  · rcases List.mem_append.1 ht with ht | ht
    · exact h.ty t ht
    · rw [List.mem_singleton.1 ht]; exact h.ty _ (getT_mem hk)
  · obtain ⟨h1, h2⟩ := h.ty _ (getT_mem ha)
    exact ⟨small_turn h1, h2⟩
end Go.Proofs.YtldnjnnhfeobdaaGreatDoor
/- The law TypesOrder returns true. Conditions: a tidy graph. -/
namespace Go.Proofs.YtldnjnnhfeobdaaGreatDoor
set_option linter.all false
set_option linter.unusedSimpArgs false
set_option linter.unusedVariables false
open Go.RowKit Go.Shelf

theorem light_le {g : Graph} (h : lightG g = true) (h4 : g.length ≤ 400) : g.length ≤ 24 := by
  unfold lightG at h
  simp only [Bool.and_eq_true, Bool.or_eq_true, decide_eq_true_eq] at h
  omega
structure OrderF (g h : Graph) (k a b : Nat) : Prop where
  err1 : errG h [(((a + k) % g.length : Nat) : Int)] = 0
  text : textS h (((a + k) % g.length : Nat) : Int) = textS g (a : Int)
  err2 : errG h [(((a + k) % g.length : Nat) : Int), (((b + k) % g.length : Nat) : Int)] = 0
  same : equalG h (((a + k) % g.length : Nat) : Int) (((b + k) % g.length : Nat) : Int) = equalG g (a : Int) (b : Int)
theorem textS_of {g : Graph} (hg : WF g) {a : Nat} (ha : a < g.length) : errG g [(a : Int)] = 0 ∧ textS g (a : Int) = ⟨(textG g a).toArray⟩ := by
  have e : errG g [(a : Int)] = 0 := errG_of hg (by intro x hx; simp at hx; omega)
  refine ⟨e, ?_⟩
  unfold textS
  rw [e, if_pos rfl, Int.toNat_natCast]
theorem equalG_of {g : Graph} (hg : WF g) {a b : Nat} (ha : a < g.length) (hb : b < g.length) : errG g [(a : Int), (b : Int)] = 0 ∧ equalG g (a : Int) (b : Int) = sameG g a b := by
  have e : errG g [(a : Int), (b : Int)] = 0 := errG_of hg (by intro x hx; simp at hx; omega)
  refine ⟨e, ?_⟩
  unfold equalG
  rw [e, if_pos rfl, Int.toNat_natCast, Int.toNat_natCast]
theorem order_facts {g : Graph} (hg : WF g) (k : Nat) {a b : Nat} (ha : a < g.length) (hb : b < g.length) : OrderF g (ordL g k g.length) k a b := by
  obtain ⟨hh, hf⟩ := shift_facts hg (ordL_shifted g k)
  obtain ⟨f1, f2⟩ := hf a b ha hb
  have la : (a + k) % g.length < (ordL g k g.length).length := by rw [ordL_length]; exact Nat.mod_lt _ (by omega)
  have lb : (b + k) % g.length < (ordL g k g.length).length := by rw [ordL_length]; exact Nat.mod_lt _ (by omega)
  obtain ⟨e1, e2⟩ := textS_of hh la
  obtain ⟨e3, e4⟩ := equalG_of hh la lb
  exact ⟨e1, by rw [e2, f1, (textS_of hg ha).2], e3, by rw [e4, f2, (equalG_of hg ha hb).2]⟩
structure WideF (g h : Graph) (k a : Nat) : Prop where
  err1 : errG h [(a : Int)] = 0
  text : textS h (a : Int) = textS g (a : Int)
  err2 : errG h [(k : Int), (g.length : Int)] = 0
  same : equalG h (k : Int) (g.length : Int) = true
theorem wide_F {g : Graph} (hg : WF g) (hn : g.length < 400) {k a : Nat} (hk : k < g.length) (ha : a < g.length) : WideF g (wideL g k a) k a := by
  have W := wideL_wide g hk ha
  obtain ⟨hh, f1, f2⟩ := wide_facts hg hn hk ha W
  obtain ⟨e1, e2⟩ := textS_of hh (show a < (wideL g k a).length by rw [W.len]; omega)
  obtain ⟨e3, e4⟩ := equalG_of hh (show k < (wideL g k a).length by rw [W.len]; omega) (show g.length < (wideL g k a).length by rw [W.len]; omega)
  exact ⟨e1, by rw [e2, f1, (textS_of hg ha).2], e3, by rw [e4, f2]⟩
/-- the number of places by which the order is turned -/
def byN (n : Nat) (x : Int) : Nat := (x % 18446744073709551616).toNat % n
theorem by_wrap (n : Nat) (hn : 0 < n) (hn2 : n ≤ 400) (x : Int) : wrap64 ((IntKind.u64.wrap x).tmod (n : Int)) = (byN n x : Int) := by
  have h1 : IntKind.u64.wrap x = x % 18446744073709551616 := by
    simp [IntKind.wrap, IntKind.bits, IntKind.signed]
  have h2 : 0 ≤ x % 18446744073709551616 := Int.emod_nonneg _ (by decide)
  rw [h1, Int.tmod_eq_emod_of_nonneg h2]
  have h3 : ((byN n x : Nat) : Int) = (x % 18446744073709551616) % (n : Int) := by
    unfold byN
    rw [Int.natCast_emod, Int.toNat_of_nonneg h2]
  have h4 : byN n x < n := Nat.mod_lt _ hn
  rw [← h3]
  unfold wrap64
  omega
set_option maxRecDepth 100000 in
set_option maxHeartbeats 4000000 in
theorem order_none (w : World) (gv : Value) (g : Graph) (a b x : Int) (hg : Sl tyE w gv g) (hT : Tidy g) (hG : Glob w) (h : lightG g = false ∨ g.length = 0 ∨ ¬ errG g [a] = 0 ∨ ¬ errG g [a, b] = 0) :
    Calls Tryz.prog 5 #[gv, .int .i64 a, .int .i64 b, .int .i64 x] w (Ret w (.bool true)) := by
  have Hli := Lib.hid (light_any w gv g hg hT)
  have Hal := Lib.hid (fun w' (hx : Ext w w') => alive_any w' (hG.mono hx))
  have Hte := Lib.hid (fun w' (hx : Ext w w') => Text_any w' gv g a (hg.mono hx) hT (hG.mono hx))
  have Heq := Lib.hid (fun w' (hx : Ext w w') => equal_any w' gv g a b (hg.mono hx) hT (hG.mono hx))
  obtain ⟨A, cap, eg⟩ := hg.len
  subst eg
  have hn := hT.len
  clear hg hT hG
  cases hl : lightG g with
  | false =>
    rw [hl] at Hli
    clear h
    go_enter Tryz.func5, Tryz.ntmps5
    go_wp2_with fail
    refine Hli.out.mono ?_
    rintro e w1 ⟨rfl, hx1⟩
    go_wp2_with fail
    refine (Hal.out _ hx1).mono ?_
    rintro e w2 ⟨rfl, hx2⟩
    go_wp2_with fail
    go_ret
    exact ⟨rfl, hx1.trans hx2⟩
  | true =>
    rw [hl] at Hli h
    by_cases h0 : g.length = 0
    · have q : ((g.length : Int) == 0) = true := by rw [beq_iff_eq]; omega
      clear h h0
      go_enter Tryz.func5, Tryz.ntmps5
      go_wp2_with fail
      refine Hli.out.mono ?_
      rintro e w1 ⟨rfl, hx1⟩
      go_wp2_with fail
      refine (Hal.out _ hx1).mono ?_
      rintro e w2 ⟨rfl, hx2⟩
      go_wp2_with fail
      go_ret
      exact ⟨rfl, hx1.trans hx2⟩
    · have q : ((g.length : Int) == 0) = false := by rw [beq_eq_false_iff_ne]; omega
      have h' : ¬ errG g [a] = 0 ∨ ¬ errG g [a, b] = 0 := by
        rcases h with h | h | h | h
        · cases h
        · exact absurd h h0
        · exact .inl h
        · exact .inr h
      generalize errG g [a] = e1 at *
      generalize errG g [a, b] = e2 at *
      generalize textS g a = tx at *
      generalize equalG g a b = eqb at *
      clear h
      have go : ∀ (c1 c2 : Bool), (e1 != 0) = c1 → (e2 != 0) = c2 → (c1 = true ∨ c2 = true) → Calls Tryz.prog 5 #[.slice A g.length cap, .int .i64 a, .int .i64 b, .int .i64 x] w (Ret w (.bool true)) := by
        intro c1 c2 r1 r2 h12
        cases c1 with
        | true =>
          clear h12
          go_enter Tryz.func5, Tryz.ntmps5
          go_wp2_with fail
          refine Hli.out.mono ?_
          rintro e w1 ⟨rfl, hx1⟩
          go_wp2_with fail
          refine (Hte.out _ hx1).mono ?_
          rintro e w2 ⟨rfl, hx2⟩
          have Hx2 := Lib.hid (hx1.trans hx2)
          clear hx1 hx2
          go_wp2_with fail
          refine (Heq.out _ Hx2.out).mono ?_
          rintro e w3 ⟨rfl, hx3⟩
          have Hx3 := Lib.hid (Hx2.out.trans hx3)
          clear hx3
          go_wp2_with fail
          refine (Hal.out _ Hx3.out).mono ?_
          rintro e w4 ⟨rfl, hx4⟩
          go_wp2_with fail
          go_ret
          exact ⟨rfl, Hx3.out.trans hx4⟩
        | false =>
          have : c2 = true := by rcases h12 with h | h; cases h; exact h
          subst this
          clear h12
          go_enter Tryz.func5, Tryz.ntmps5
          go_wp2_with fail
          refine Hli.out.mono ?_
          rintro e w1 ⟨rfl, hx1⟩
          go_wp2_with fail
          refine (Hte.out _ hx1).mono ?_
          rintro e w2 ⟨rfl, hx2⟩
          have Hx2 := Lib.hid (hx1.trans hx2)
          clear hx1 hx2
          go_wp2_with fail
          refine (Heq.out _ Hx2.out).mono ?_
          rintro e w3 ⟨rfl, hx3⟩
          have Hx3 := Lib.hid (Hx2.out.trans hx3)
          clear hx3
          go_wp2_with fail
          refine (Hal.out _ Hx3.out).mono ?_
          rintro e w4 ⟨rfl, hx4⟩
          go_wp2_with fail
          go_ret
          exact ⟨rfl, Hx3.out.trans hx4⟩
      exact go _ _ rfl rfl (by rcases h' with h' | h' <;> simp [h'])
set_option maxRecDepth 100000 in
set_option maxHeartbeats 16000000 in
theorem order_law (w : World) (gv : Value) (g : Graph) (a b x : Int) (hg : Sl tyE w gv g) (hT : Tidy g) (hG : Glob w) :
    Calls Tryz.prog 5 #[gv, .int .i64 a, .int .i64 b, .int .i64 x] w (Ret w (.bool true)) := by
  by_cases hq : lightG g = false ∨ g.length = 0 ∨ ¬ errG g [a] = 0 ∨ ¬ errG g [a, b] = 0
  · exact order_none w gv g a b x hg hT hG hq
  have hl : lightG g = true := by
    cases h : lightG g with
    | true => rfl
    | false => exact absurd (.inl h) hq
  have hn0 : ¬ g.length = 0 := fun h => hq (.inr (.inl h))
  have e1 : errG g [a] = 0 := Classical.byContradiction fun h => hq (.inr (.inr (.inl h)))
  have e2 : errG g [a, b] = 0 := Classical.byContradiction fun h => hq (.inr (.inr (.inr h)))
  clear hq
  obtain ⟨hW, hab⟩ := errG_zero e2
  obtain ⟨a0, a1⟩ := hab a (by simp)
  obtain ⟨b0, b1⟩ := hab b (by simp)
  obtain ⟨i, rfl⟩ := Int.eq_ofNat_of_zero_le a0
  obtain ⟨j, rfl⟩ := Int.eq_ofNat_of_zero_le b0
  have hi : i < g.length := by omega
  have hj : j < g.length := by omega
  have hn := light_le hl hW.len
  have Hli := Lib.hid (light_any w gv g hg hT)
  have Hal := Lib.hid (fun w' (hx : Ext w w') => alive_any w' (hG.mono hx))
  have Hte := Lib.hid (fun w' (hx : Ext w w') => Text_any w' gv g i (hg.mono hx) hT (hG.mono hx))
  have Heq := Lib.hid (fun w' (hx : Ext w w') => equal_any w' gv g i j (hg.mono hx) hT (hG.mono hx))
  rw [hl] at Hli
  rw [e1] at Hte
  rw [e2] at Heq
  have hkn : byN g.length x < g.length := Nat.mod_lt _ (by omega)
  have OF := order_facts hW (byN g.length x) hi hj
  generalize hk : byN g.length x = k at *
  have HW := Lib.hid hW
  have HT := Lib.hid hT
  have HG := Lib.hid hG
  have hmk := fun w' => make_zeros w' g.length (by omega)
  have hmg := fun w' => make_graph w' g.length (by omega)
  have hg' := hg
  obtain ⟨A, cap, rfl, hs⟩ := hg.ty
  have Hg := Lib.hid hg'
  have Hs := Lib.hid hs
  have HOF := Lib.hid OF
  have Hkk : Hid (wrap64 ((IntKind.u64.wrap x).tmod (g.length : Int)) = (k : Int)) := Lib.hid (by rw [← hk]; exact by_wrap _ (by omega) (by omega) x)
  generalize heq0 : equalG g (i : Int) (j : Int) = eqb at *
  generalize htx0 : textS g (i : Int) = tx at *
  have Heq0 := Lib.hid heq0
  have Htx0 := Lib.hid htx0
  clear heq0 htx0
  have q : ((g.length : Int) == 0) = false := by rw [beq_eq_false_iff_ne]; omega
  clear hg hg' hs hW hT hG e1 e2 hab a0 a1 b0 b1 hl OF hk
  go_enter Tryz.func5, Tryz.ntmps5
  go_wp2_with fail
  refine Hli.out.mono ?_
  rintro e w1 ⟨rfl, hx1⟩
  go_wp2_with fail
  refine (Hte.out _ hx1).mono ?_
  rintro e w2 ⟨rfl, hx2⟩
  have Hx2 := Lib.hid (hx1.trans hx2)
  clear hx1 hx2
  go_wp2_with fail
  refine (Heq.out _ Hx2.out).mono ?_
  rintro e w3 ⟨rfl, hx3⟩
  have Hx3 := Lib.hid (Hx2.out.trans hx3)
  clear hx3
  go_upto_region 9 with fail
  rw [Hkk.out]
  clear Hkk
  go_wp2_with fail
  have Hrow : Hid (IntRow ((w3.alloc (zeros g.length)).alloc (zeroTys g.length)) w3.heap.size (ordTo g.length k 0)) := by
    rw [ordTo_zero]; exact Lib.hid (IntRow.ext (heap_alloc_self w3 (zeros g.length)) ((Ext.refl _).alloc _))
  have Hty : Hid (TyRow (· ≠ w3.heap.size) ((w3.alloc (zeros g.length)).alloc (zeroTys g.length)) (w3.heap.size + 1) (ordL g k 0)) := by
    have h := TyRow.made (· ≠ w3.heap.size) (w3.alloc (zeros g.length)) g.length
    rw [World.size_alloc] at h
    exact Lib.hid h
  have Hx4 := Lib.hid ((Hx3.out.alloc (zeros g.length)).alloc (zeroTys g.length))
  have hbb : w.heap.size ≤ w3.heap.size := Hx3.out.size
  clear hmk hmg
  generalize (w3.alloc (zeros g.length)).alloc (zeroTys g.length) = w4 at *
  generalize w3.heap.size = bt at *
  go_loopw [17] (fun u wr => ∃ m : Nat, m ≤ g.length ∧ u = .int .i64 m ∧ Hid (Ext w wr) ∧ Hid (IntRow wr bt (ordTo g.length k m)) ∧ Hid (TyRow (· ≠ bt) wr (bt + 1) (ordL g k 0))) (fun u _ => g.length - (intOf u).toNat)
  case atStart => exact ⟨0, by omega, rfl, Hx4, Hrow, Hty⟩
  case round =>
    clear Hrow Hty Hx4
    obtain ⟨m, hm, rfl, Hx4, Hrow, Hty⟩ := hrel
    by_cases hlt : m < g.length
    · have c0 := Hrow.out.cell m (by rw [ordTo_length]; exact hlt)
      have f0 := Hrow.out.frozen m
      have l0 := cell_lt c0
      have i0 : (0 : Int) ≤ (m : Int) := by omega
      have i1 : (m : Int) < (g.length : Int) := by omega
      have hmod : ((m : Int) + (k : Int)).tmod (g.length : Int) = (((m + k) % g.length : Nat) : Int) := by
        rw [Int.tmod_eq_emod_of_nonneg (by omega), Int.natCast_emod]; rfl
      have hml : (m + k) % g.length < g.length := Nat.mod_lt _ (by omega)
      have Hset := Lib.hid (ordTo_succ (k := k) hlt)
      go_wp2_with fail
      go_roundw
      case rel =>
        have h1 := Hrow.out.set m ((m + k) % g.length)
        rw [Hset.out] at h1
        exact ⟨m + 1, by omega, by go_num, Lib.hid (Hx4.out.setCell hbb _), Lib.hid h1, Lib.hid (Hty.out.other (by omega) (fun c hc => hc) _ _)⟩
      case measure => simp [intOf]; omega
    · have hmn : m = g.length := by omega
      subst hmn
      have i1 : ¬ (g.length : Int) < (g.length : Int) := by omega
      clear hlt hm
      go_wp2_with fail
      obtain ⟨wo, rfl⟩ : ∃ wo : World, wo = wr := ⟨_, rfl⟩
      go_loopw [18] (fun u wr => ∃ m : Nat, m ≤ g.length ∧ u = .int .i64 m ∧ Hid (Ext w wr) ∧ Hid (IntRow wr bt (ordTo g.length k g.length)) ∧ Hid (TyRow (· ≠ bt) wr (bt + 1) (ordL g k m))) (fun u _ => g.length - (intOf u).toNat)
      case atStart => exact ⟨0, by omega, rfl, Hx4, Hrow, Hty⟩
      case round =>
        clear Hrow Hty Hx4 i1
        obtain ⟨m, hm, rfl, Hx4, Hrow, Hty⟩ := hrel
        by_cases hlt : m < g.length
        · have c0 := Hrow.out.cell m (by rw [ordTo_length]; exact hlt)
          rw [ordTo_get hlt] at c0
          have l0 := cell_lt c0
          have i0 : (0 : Int) ≤ (m : Int) := by omega
          have i1 : (m : Int) < (g.length : Int) := by omega
          have hpl : (m + k) % g.length < g.length := Nat.mod_lt _ (by omega)
          have HoS := Lib.hid (show (ordL g k m).set ((m + k) % g.length) (turnT (shiftF g.length k) (getT g m)) = ordL g k (m + 1) from rfl)
          obtain ⟨b, off, vp, vm, vo, rfl, hat, hof⟩ := Hs.out m hlt
          rw [← getT_lt hlt] at hat hof
          have hba := cell_lt hat.c0
          have hfine := HW.out.fine (getT_mem hlt)
          have htu := ord_turn HW.out k hlt
          generalize (m + k) % g.length = p at *
          have hsl : ∀ w', Ext wr w' → Sl intE w' (.slice (some ⟨bt, 0, none⟩) g.length g.length) ((ordTo g.length k g.length).map fun (n : Nat) => (n : Int)) := fun w' hx => by
            have h := (Hrow.out.ext hx).sl g.length (by rw [ordTo_length]; exact Nat.le_refl _)
            rwa [ordTo_length] at h
          have hrt := fun w' (hx : Ext wr w') => rturned_any w' g.length (getT g m) vp vm vo _ _ (hof.mono (Hx4.out.trans hx)) hfine (hsl w' hx) (by rw [List.length_map, ordTo_length]; omega) (fun r hr => by rw [List.length_map, ordTo_length]; exact hfine.refs r hr)
          rw [htu] at hrt
          obtain ⟨A1, c1, e1⟩ := hof.parts.len
          obtain ⟨A2, c2, e2⟩ := hof.methods.len
          obtain ⟨A3, c3, e3⟩ := hof.overs.len
          subst e1 e2 e3
          unfold tyV at hrt
          have Hrt := Lib.hid hrt
          obtain ⟨d0, d1, d2, d3, d4, d5, d6, d7, d8, d9⟩ := hat.mono Hx4.out
          have ld := cell_lt d0
          have hTl := ordL_length g k m
          clear hrt hsl htu hfine hof hat
          generalize getT g m = t at *
          have j0 : (0 : Int) ≤ (p : Int) := by omega
          have j1 : (p : Int) < (g.length : Int) := by omega
          have HS := Lib.hid (show ∀ w', Kb wr.heap.size (bt + 1) wr w' → w'.cell? ⟨bt, m, none⟩ = some (.int .i64 (p : Int)) ∧ w'.cell? ⟨b, off + m * 10, none⟩ = some (.int .u8 t.kind) ∧ w'.cell? ⟨b, off + m * 10 + 1, none⟩ = some (.int .i64 t.low) ∧ w'.cell? ⟨b, off + m * 10 + 2, none⟩ = some (.int .i64 t.high) ∧ w'.cell? ⟨b, off + m * 10 + 3, none⟩ = some (.bool t.branded) ∧ w'.cell? ⟨b, off + m * 10 + 4, none⟩ = some (.string t.brand) ∧ w'.cell? ⟨b, off + m * 10 + 5, none⟩ = some (.string t.opaq) ∧ w'.cell? ⟨b, off + m * 10 + 6, none⟩ = some (.int .i64 t.super) ∧ w'.cell? ⟨b, off + m * 10 + 7, none⟩ = some (.slice A1 t.parts.length c1) ∧ w'.cell? ⟨b, off + m * 10 + 8, none⟩ = some (.slice A2 t.methods.length c2) ∧ w'.cell? ⟨b, off + m * 10 + 9, none⟩ = some (.slice A3 t.overs.length c3) from
            fun w' h => by
              have hb1 : b ≠ bt + 1 := by omega
              exact ⟨h.cell c0 l0 (by omega), h.cell d0 ld hb1, h.cell d1 ld hb1, h.cell d2 ld hb1, h.cell d3 ld hb1, h.cell d4 ld hb1, h.cell d5 ld hb1, h.cell d6 ld hb1, h.cell d7 ld hb1, h.cell d8 ld hb1, h.cell d9 ld hb1⟩)
          clear c0 d0 d1 d2 d3 d4 d5 d6 d7 d8 d9
          go_wp2_with fail
          go_region_held3 (fun w' => w'.cell? ⟨bt, m, none⟩ = some (.int .i64 (p : Int)) ∧ w'.cell? ⟨b, off + m * 10, none⟩ = some (.int .u8 t.kind) ∧ w'.cell? ⟨b, off + m * 10 + 1, none⟩ = some (.int .i64 t.low) ∧ w'.cell? ⟨b, off + m * 10 + 2, none⟩ = some (.int .i64 t.high) ∧ w'.cell? ⟨b, off + m * 10 + 3, none⟩ = some (.bool t.branded) ∧ w'.cell? ⟨b, off + m * 10 + 4, none⟩ = some (.string t.brand) ∧ w'.cell? ⟨b, off + m * 10 + 5, none⟩ = some (.string t.opaq) ∧ w'.cell? ⟨b, off + m * 10 + 6, none⟩ = some (.int .i64 t.super) ∧ w'.cell? ⟨b, off + m * 10 + 7, none⟩ = some (.slice A1 t.parts.length c1) ∧ w'.cell? ⟨b, off + m * 10 + 8, none⟩ = some (.slice A2 t.methods.length c2) ∧ w'.cell? ⟨b, off + m * 10 + 9, none⟩ = some (.slice A3 t.overs.length c3))
            (first | (refine HS.out _ ?_; with_reducible exact hK5.set10 _ _ _ _ _ _ _ _ _ _ _ _ _ _ _ _ _ _ _ _) | (refine HS.out _ ?_; with_reducible exact hK5) | (refine HS.out _ ?_; with_reducible exact Kb.refl.drew))
            ((go_at_call 22; refine (Hrt.out _ (Ext.refl _).drew).mono ?_; rintro e w5 ⟨v5, rfl, ⟨cs5, hrel5, rfl⟩, hx50⟩; have hx5 := (Ext.refl wr).drew.trans hx50; have hK5 : Kb wr.heap.size (bt + 1) wr w5 := Kb.refl.ext hx5 (Nat.le_refl _); have Hrel5 := Lib.hid hrel5; obtain ⟨_, _, _, rfl, ⟨_, _, rfl, _⟩, ⟨_, _, rfl, _⟩, ⟨_, _, rfl, _⟩⟩ := hrel5; have hty5 := Hty.out.ext hx5; obtain ⟨r5, hr5, hc5⟩ := hty5.at (j := p) (by rw [hTl]; exact hpl); obtain ⟨_, _, _, rfl, ⟨_, _, rfl, _⟩, ⟨_, _, rfl, _⟩, ⟨_, _, rfl, _⟩⟩ := hr5; have z0 : w5.cell? ⟨bt + 1, p * 10, none⟩ = some _ := hc5 0 _ rfl; have z1 := hc5 1 _ rfl; have z2 := hc5 2 _ rfl; have z3 := hc5 3 _ rfl; have z4 := hc5 4 _ rfl; have z5 := hc5 5 _ rfl; have z6 := hc5 6 _ rfl; have z7 := hc5 7 _ rfl; have z8 := hc5 8 _ rfl; have z9 := hc5 9 _ rfl; have f0 := hty5.frozen (p * 10); have f1 := hty5.frozen (p * 10 + 1); have f2 := hty5.frozen (p * 10 + 2); have f3 := hty5.frozen (p * 10 + 3); have f4 := hty5.frozen (p * 10 + 4); have f5 := hty5.frozen (p * 10 + 5); have f6 := hty5.frozen (p * 10 + 6); have f7 := hty5.frozen (p * 10 + 7); have f8 := hty5.frozen (p * 10 + 8); have f9 := hty5.frozen (p * 10 + 9); have lz := cell_lt z0; have Hty5 := Lib.hid hty5; clear hty5 hc5 hx50; simp only [pack]))
          all_goals
            have hrel6 := tyE.mono (New wr.drew) (fun c => c ≠ bt ∧ c ≠ bt + 1) w5 w5 _ _ (fun _ _ _ => rfl) (fun c hc _ => by have h1 := Hty.out.lt; unfold New at hc; simp at hc; omega) Hrel5.out
            obtain ⟨s1, s2, s3⟩ := row_store (w0 := w) (Hx4.out.trans hx5) (by omega) Hty5.out (Hrow.out.ext hx5) (by omega) (by rw [hTl]; exact hpl) hrel6
            rw [HoS.out] at s2
            have S1 := Lib.hid s1
            have S2 := Lib.hid s2
            have S3 := Lib.hid s3
            clear s1 s2 s3 hrel6 z0 z1 z2 z3 z4 z5 z6 z7 z8 z9 f0 f1 f2 f3 f4 f5 f6 f7 f8 f9 lz hK5 hx5
            go_wp2_with fail
            go_roundw
            case rel => exact ⟨m + 1, by omega, by go_num, S1, S3, S2⟩
            case measure => simp [intOf]; omega
        · have hmn : m = g.length := by omega
          subst hmn
          have i1 : ¬ (g.length : Int) < (g.length : Int) := by omega
          clear hlt hm
          have OF := HOF.out
          have ci := Hrow.out.cell i (by rw [ordTo_length]; exact hi)
          have cj := Hrow.out.cell j (by rw [ordTo_length]; exact hj)
          rw [ordTo_get hi] at ci
          rw [ordTo_get hj] at cj
          have hTh := ordL_tidy HT.out k g.length (Nat.le_refl _)
          have hsl : Sl tyE wr (.slice (some ⟨bt + 1, 0, none⟩) g.length g.length) (ordL g k g.length) := by
            have h := (Hty.out.slF (by omega) (cap := g.length) (by rw [ordL_length]; exact Nat.le_refl _)).any
            rwa [ordL_length] at h
          have htx := fun w' (hx : Ext wr w') => Text_any w' _ _ (((i + k) % g.length : Nat) : Int) (hsl.mono hx) hTh (HG.out.mono (Hx4.out.trans hx))
          have heqx := fun w' (hx : Ext wr w') => equal_any w' _ _ (((i + k) % g.length : Nat) : Int) (((j + k) % g.length : Nat) : Int) (hsl.mono hx) hTh (HG.out.mono (Hx4.out.trans hx))
          rw [OF.err1, OF.text, Htx0.out] at htx
          rw [OF.err2, OF.same, Heq0.out] at heqx
          have Htx := Lib.hid htx
          have Heqx := Lib.hid heqx
          clear htx heqx OF hsl hTh
          have hpi : (i + k) % g.length < g.length := Nat.mod_lt _ (by omega)
          have hpj : (j + k) % g.length < g.length := Nat.mod_lt _ (by omega)
          generalize (i + k) % g.length = pi at *
          generalize (j + k) % g.length = pj at *
          have l0 := cell_lt ci
          have i0 : (0 : Int) ≤ (i : Int) := by omega
          have i2 : (i : Int) < (g.length : Int) := by omega
          have i3 : (0 : Int) ≤ (j : Int) := by omega
          have i4 : (j : Int) < (g.length : Int) := by omega
          go_wp2_with fail
          refine (Htx.out _ (Ext.refl _)).mono ?_
          rintro e w5 ⟨rfl, hx5⟩
          have Hx5 := Lib.hid hx5
          replace ci := hx5.cell ci
          replace cj := hx5.cell cj
          replace l0 := cell_lt ci
          have HSc := Lib.hid (show ∀ w', Ext w5 w' → w'.cell? ⟨bt, i, none⟩ = some (.int .i64 (pi : Int)) ∧ w'.cell? ⟨bt, j, none⟩ = some (.int .i64 (pj : Int)) from fun w' h => ⟨h.cell ci, h.cell cj⟩)
          clear hx5 Htx
          go_wp2_with fail
          go_region_held3 (fun w' => w'.cell? ⟨bt, i, none⟩ = some (.int .i64 (pi : Int)) ∧ w'.cell? ⟨bt, j, none⟩ = some (.int .i64 (pj : Int)))
            (first | exact HSc.out _ (Ext.refl _).drew | exact HSc.out _ hx6)
            ((go_at_call 20; refine (Heqx.out _ Hx5.out.drew).mono ?_; rintro e w6 ⟨rfl, hx60⟩; have hx6 := (Ext.refl w5).drew.trans hx60; clear hx60))
          all_goals
            have Hx6 := Lib.hid (Hx5.out.trans hx6)
            clear hx6 ci cj l0 HSc Heqx
            have q1 : (tx.toList == tx.toList) = true := by simp
            have q2 : (tx.toList != tx.toList) = false := by simp
            have Hx7 := Lib.hid (Hx4.out.trans Hx6.out)
            have Hrow7 : Hid (IntRow w6 bt (twinTo g.length k 0)) := by rw [twinTo_zero]; exact Lib.hid (Hrow.out.ext Hx6.out)
            clear Hx4 Hx6 Hrow Hty Hx5 HOF Hx3 Hx2
            by_cases h24 : g.length = 24
            case pos =>
              as_aux_lemma =>
                have q3 : (24 : Int) ≤ (g.length : Int) := by omega
                clear h24
                go_wp2_with fail
                refine (Hal.out _ Hx7.out).mono ?_
                rintro e w8 ⟨rfl, hx8⟩
                go_wp2_with fail
                go_ret
                exact ⟨rfl, Hx7.out.trans hx8⟩
            have q3 : ¬ (24 : Int) ≤ (g.length : Int) := by omega
            have h400 : g.length < 400 := by omega
            go_wp2_with fail
            clear q q1 q2 q3 h24
            go_loopw [23] (fun u wq => ∃ m : Nat, m ≤ g.length ∧ u = .int .i64 m ∧ Hid (Ext w wq) ∧ Hid (IntRow wq bt (twinTo g.length k m))) (fun u _ => g.length - (intOf u).toNat)
            case atStart => exact ⟨0, by omega, rfl, Hx7, Hrow7⟩
            case round =>
              clear Hx7 Hrow7
              obtain ⟨m, hm, rfl, Hx7, Hrow7⟩ := hrel
              by_cases hlt : m < g.length
              · have c0 := Hrow7.out.cell m (by rw [twinTo_length]; exact hlt)
                have f0 := Hrow7.out.frozen m
                have l0 := cell_lt c0
                have i5 : (0 : Int) ≤ (m : Int) := by omega
                have i6 : (m : Int) < (g.length : Int) := by omega
                have Hset := Lib.hid (twinTo_succ (k := k) hlt)
                go_wp2_with fail
                go_roundw
                case rel =>
                  have h1 := Hrow7.out.set m m
                  rw [Hset.out] at h1
                  exact ⟨m + 1, by omega, by go_num, Lib.hid (Hx7.out.setCell hbb _), Lib.hid h1⟩
                case measure => simp [intOf]; omega
              · have hmn : m = g.length := by omega
                subst hmn
                have i5 : ¬ (g.length : Int) < (g.length : Int) := by omega
                clear hlt hm
                obtain ⟨b, off, vp, vm, vo, rfl, hat, hof⟩ := Hs.out k hkn
                rw [← getT_lt hkn] at hat hof
                have hTw := twin_turn HW.out hkn hi
                have hwl : g ++ [getT g k] = g ++ [getT g k] := rfl
                have hWF := wide_F HW.out h400 hkn hi
                have hWT := wideL_tidy HT.out h400 hkn hi
                have hws : (g ++ [getT g k]).set i (turnT (twinF g.length k) (getT g i)) = wideL g k i := rfl
                have hgF : SlF (fun c => c < w.heap.size) tyE w (.slice (some ⟨b, off, none⟩) g.length cap) g := SlF.mono Hg.out (fun _ _ _ => rfl) (fun c _ hlt => hlt)
                obtain ⟨A1, c1, e1⟩ := hof.parts.len
                obtain ⟨A2, c2, e2⟩ := hof.methods.len
                obtain ⟨A3, c3, e3⟩ := hof.overs.len
                subst e1 e2 e3
                obtain ⟨d0, d1, d2, d3, d4, d5, d6, d7, d8, d9⟩ := hat.mono Hx7.out
                generalize getT g k = t at *
                have hrt : tyE.rel (fun c => c < w.heap.size) wr t [.int .u8 t.kind, .int .i64 t.low, .int .i64 t.high, .bool t.branded, .string t.brand, .string t.opaq, .int .i64 t.super, .slice A1 t.parts.length c1, .slice A2 t.methods.length c2, .slice A3 t.overs.length c3] := ⟨_, _, _, rfl, (SlF.mono hof.parts (fun _ _ _ => rfl) (fun c _ hlt => hlt)).ext Hx7.out, (SlF.mono hof.methods (fun _ _ _ => rfl) (fun c _ hlt => hlt)).ext Hx7.out, (SlF.mono hof.overs (fun _ _ _ => rfl) (fun c _ hlt => hlt)).ext Hx7.out⟩
                have HSd := Lib.hid (show ∀ w', Ext wr w' → w'.cell? ⟨b, off + k * 10, none⟩ = some (.int .u8 t.kind) ∧ w'.cell? ⟨b, off + k * 10 + 1, none⟩ = some (.int .i64 t.low) ∧ w'.cell? ⟨b, off + k * 10 + 2, none⟩ = some (.int .i64 t.high) ∧ w'.cell? ⟨b, off + k * 10 + 3, none⟩ = some (.bool t.branded) ∧ w'.cell? ⟨b, off + k * 10 + 4, none⟩ = some (.string t.brand) ∧ w'.cell? ⟨b, off + k * 10 + 5, none⟩ = some (.string t.opaq) ∧ w'.cell? ⟨b, off + k * 10 + 6, none⟩ = some (.int .i64 t.super) ∧ w'.cell? ⟨b, off + k * 10 + 7, none⟩ = some (.slice A1 t.parts.length c1) ∧ w'.cell? ⟨b, off + k * 10 + 8, none⟩ = some (.slice A2 t.methods.length c2) ∧ w'.cell? ⟨b, off + k * 10 + 9, none⟩ = some (.slice A3 t.overs.length c3) from fun w' h => ⟨h.cell d0, h.cell d1, h.cell d2, h.cell d3, h.cell d4, h.cell d5, h.cell d6, h.cell d7, h.cell d8, h.cell d9⟩)
                have HgF := Lib.hid hgF
                have Hrt := Lib.hid hrt
                have HTw := Lib.hid hTw
                have HWF := Lib.hid hWF
                have HWT := Lib.hid hWT
                have Hws := Lib.hid hws
                have hsz7 := Hx7.out.size
                have Hsz7 := Lib.hid hsz7
                have hbl : bt < wr.heap.size := Hrow7.out.lt
                have j0 : (0 : Int) ≤ (k : Int) := by omega
                have j1 : (k : Int) < (g.length : Int) := by omega
                clear hat hof d0 d1 d2 d3 d4 d5 d6 d7 d8 d9 hgF hrt hTw hWF hWT hws hwl hsz7
                go_upto_region 29 with fail
                go_cut [24] (fun v wx => ∃ gb gc, v = .slice (some ⟨gb, 0, none⟩) (g.length + 1) gc ∧ Hid (wr.heap.size ≤ gb) ∧ Hid (g.length + 1 ≤ gc) ∧ Hid (TyRow (· ≠ bt) wx gb (g ++ [t])) ∧ Hid (Ext wr wx))
                case first =>
                  refine wp_region_held_drew (S := (fun w' => w'.cell? ⟨b, off + k * 10, none⟩ = some (.int .u8 t.kind) ∧ w'.cell? ⟨b, off + k * 10 + 1, none⟩ = some (.int .i64 t.low) ∧ w'.cell? ⟨b, off + k * 10 + 2, none⟩ = some (.int .i64 t.high) ∧ w'.cell? ⟨b, off + k * 10 + 3, none⟩ = some (.bool t.branded) ∧ w'.cell? ⟨b, off + k * 10 + 4, none⟩ = some (.string t.brand) ∧ w'.cell? ⟨b, off + k * 10 + 5, none⟩ = some (.string t.opaq) ∧ w'.cell? ⟨b, off + k * 10 + 6, none⟩ = some (.int .i64 t.super) ∧ w'.cell? ⟨b, off + k * 10 + 7, none⟩ = some (.slice A1 t.parts.length c1) ∧ w'.cell? ⟨b, off + k * 10 + 8, none⟩ = some (.slice A2 t.methods.length c2) ∧ w'.cell? ⟨b, off + k * 10 + 9, none⟩ = some (.slice A3 t.overs.length c3))) (by kernel_rfl) ?_ (fun hHeld => ?_)
                  · (try dsimp only)
                    exact HSd.out _ (Ext.refl _).drew
                  refine wpAnyH_take (i := 1) (v := ?_) rfl (by kernel_rfl) (by kernel_rfl) (by kernel_rfl) (fun _ _ _ h => h) (Or.inl ⟨by rfl, ?_⟩) (by assumption) ?_
                  rotate_left
                  · intro w hSw
                    (try dsimp only at hSw)
                    go_simp
                    (first | done | with_reducible rfl | exact rfl)
                  (try simp only [Act.put, List.setIfInBounds_toArray, List.set_cons_zero, List.set_cons_succ])
                  refine wpAnyH_take (i := 3) (v := ?_) rfl (by kernel_rfl) (by kernel_rfl) (by kernel_rfl) (fun _ _ _ h => h) (Or.inl ⟨by rfl, ?_⟩) (by assumption) ?_
                  rotate_left
                  · intro w hSw
                    (try dsimp only at hSw)
                    go_simp
                    (first | done | with_reducible rfl | exact rfl)
                  (try simp only [Act.put, List.setIfInBounds_toArray, List.set_cons_zero, List.set_cons_succ])
                  refine wpAnyH_take (i := 4) (v := ?_) rfl (by kernel_rfl) (by kernel_rfl) (by kernel_rfl) (fun _ _ _ h => h) (Or.inl ⟨by rfl, ?_⟩) (by assumption) ?_
                  rotate_left
                  · intro w hSw
                    (try dsimp only at hSw)
                    go_simp
                    (first | done | with_reducible rfl | exact rfl)
                  (try simp only [Act.put, List.setIfInBounds_toArray, List.set_cons_zero, List.set_cons_succ])
                  refine wpAnyH_take (i := 5) (v := ?_) rfl (by kernel_rfl) (by kernel_rfl) (by kernel_rfl) (fun _ _ _ h => h) (Or.inl ⟨by rfl, ?_⟩) (by assumption) ?_
                  rotate_left
                  · intro w hSw
                    (try dsimp only at hSw)
                    go_simp
                    (first | done | with_reducible rfl | exact rfl)
                  (try simp only [Act.put, List.setIfInBounds_toArray, List.set_cons_zero, List.set_cons_succ])
                  refine wpAnyH_take (i := 6) (v := ?_) rfl (by kernel_rfl) (by kernel_rfl) (by kernel_rfl) (fun _ _ _ h => h) (Or.inl ⟨by rfl, ?_⟩) (by assumption) ?_
                  rotate_left
                  · intro w hSw
                    (try dsimp only at hSw)
                    go_simp
                    (first | done | with_reducible rfl | exact rfl)
                  (try simp only [Act.put, List.setIfInBounds_toArray, List.set_cons_zero, List.set_cons_succ])
                  refine wpAnyH_ready (rs := [0, 7]) (by kernel_rfl) (by simp) ?_
                  refine AllReadyH.cons rfl (fun K hK => ?_) ?_
                  · go_simp
                    refine hK.out _ _ ?_ (fun hHeld => ?_)
                    · (try dsimp only)
                      exact HSd.out _ ((Ext.refl _).alloc _).drew
                    clear hK K
                    (try simp only [Act.put, List.setIfInBounds_toArray, List.set_cons_zero, List.set_cons_succ])
                    refine wpAnyH_ready (rs := [2, 7]) (by kernel_rfl) (by simp) ?_
                    refine AllReadyH.cons rfl (fun K hK => ?_) ?_
                    · refine step_append_sl (F := fun c => c ≠ bt) (G := fun c => c < w.heap.size) tyE (by rfl) _ _ 23 42 144 (by rfl) slice23 wr.heap.size (.slice (some ⟨wr.heap.size, 0, none⟩) 0 0) [] g _ _ _ (by rfl) (by rfl) ((Own.made (fun c => c ≠ bt) tyE wr wr.heap.size 42 (by have := Hsz7.out; first | omega | (simp; done) | (simp; omega))).kept (Ext.refl _).drew) (HgF.out.ext ((Hx7.out.alloc _).drew)) (fun c hc _ => ⟨by omega, by have := Hsz7.out; simp [Value.ownBlock]; omega⟩) (by have := Hsz7.out; first | omega | (simp; done) | (simp; omega)) (by simp; omega) (by decide) ?_
                      intro v1 wA hA gA eA
                      have hxA : Ext wr wA := Below.grown (((Ext.refl wr).alloc _).drew) gA (by have := Hsz7.out; first | omega | (simp; done) | (simp; omega)) (fun c hc => by simp [Value.ownBlock] at hc; omega)
                      rw [List.nil_append] at hA
                      refine hK.out _ _ ?_ (fun hHeld => ?_)
                      · (try dsimp only)
                        exact HSd.out _ hxA
                      clear hK K
                      (try simp only [Act.put, List.setIfInBounds_toArray, List.set_cons_zero, List.set_cons_succ])
                      refine wpAnyH_ready (rs := [7]) (by kernel_rfl) (by simp) ?_
                      refine AllReadyH.cons rfl (fun K hK => ?_) ?_
                      · go_simp
                        refine hK.out _ _ ?_ (fun hHeld => ?_)
                        · (try dsimp only)
                          exact HSd.out _ (hxA.alloc _)
                        clear hK K
                        (try simp only [Act.put, List.setIfInBounds_toArray, List.set_cons_zero, List.set_cons_succ])
                        refine wpAnyH_ready (rs := [8]) (by kernel_rfl) (by simp) ?_
                        refine AllReadyH.cons rfl (fun K hK => ?_) ?_
                        · refine step_append_sl (F := fun c => c ≠ bt) (G := fun c => c < w.heap.size ∨ wr.heap.size ≤ c ∧ some c ≠ v1.ownBlock) tyE (by rfl) _ _ 23 42 144 (by rfl) slice23 wr.heap.size v1 g [t] _ _ _ (by rfl) (by rfl) (hA.kept ((Ext.refl _).alloc _)) (sl_one (tyE.mono _ _ _ _ _ _ (fun _ _ _ => rfl) (fun c hc _ => Or.inl hc) (Elt.ext Hrt.out hxA)) (Or.inr ⟨hxA.size, fun e => absurd (hA.lt _ e.symm).2 (Nat.lt_irrefl _)⟩)) (fun c hc hlt => ⟨by have := Hsz7.out; omega, by rcases hc with hc | hc; exact fun e => absurd (hA.lt _ e.symm).1 (by omega); exact hc.2⟩) (by have := Hsz7.out; have := hxA.size; first | omega | (simp; omega)) (by simp; omega) (by decide) ?_
                          intro v2 w9 hB gB eB
                          have hx9 : Ext wr w9 := Below.grown (hxA.alloc _) gB (by have := hxA.size; first | omega | (simp; omega)) (fun c hc => by rcases eA with e | e <;> rw [e] at hc <;> simp [Value.ownBlock] at hc <;> omega)
                          refine hK.out _ _ ?_ (fun hHeld => ?_)
                          · (try dsimp only)
                            exact HSd.out _ hx9
                          clear hK K
                          (try simp only [Act.put, List.setIfInBounds_toArray, List.set_cons_zero, List.set_cons_succ])
                          refine wpAnyH_take (i := 9) (v := ?_) rfl (by kernel_rfl) (by kernel_rfl) (by kernel_rfl) (fun _ _ _ h => h) (Or.inl ⟨by rfl, ?_⟩) (by assumption) ?_
                          rotate_left
                          · intro w hSw
                            (try dsimp only at hSw)
                            go_simp
                            (first | done | with_reducible rfl | exact rfl)
                          (try simp only [Act.put, List.setIfInBounds_toArray, List.set_cons_zero, List.set_cons_succ])
                          refine wpAnyH_done (by kernel_rfl) ?_ _
                          obtain ⟨gb, gc, rfl, hgb, hgc, hrow9⟩ := TyRow.of_own hB (by simp)
                          simp only [List.length_append, List.length_cons, List.length_nil, Nat.zero_add] at hgc
                          simp only [List.length_append, List.length_cons, List.length_nil, Nat.zero_add]
                          go_wp2_with fail
                          go_meet
                          exact ⟨gb, gc, rfl, Lib.hid hgb, Lib.hid hgc, Lib.hid hrow9, Lib.hid hx9⟩
                        exact AllReadyH.nil
                      exact AllReadyH.nil
                    refine AllReadyH.cons rfl (fun K hK => ?_) ?_
                    · go_simp
                      refine hK.out _ _ ?_ (fun hHeld => ?_)
                      · (try dsimp only)
                        exact HSd.out _ (((Ext.refl _).alloc _).alloc _).drew
                      clear hK K
                      (try simp only [Act.put, List.setIfInBounds_toArray, List.set_cons_zero, List.set_cons_succ])
                      refine wpAnyH_ready (rs := [2]) (by kernel_rfl) (by simp) ?_
                      refine AllReadyH.cons rfl (fun K hK => ?_) ?_
                      · refine step_append_sl (F := fun c => c ≠ bt) (G := fun c => c < w.heap.size) tyE (by rfl) _ _ 23 42 144 (by rfl) slice23 wr.heap.size (.slice (some ⟨wr.heap.size, 0, none⟩) 0 0) [] g _ _ _ (by rfl) (by rfl) ((Own.made (fun c => c ≠ bt) tyE wr wr.heap.size 42 (by have := Hsz7.out; first | omega | (simp; done) | (simp; omega))).kept ((Ext.refl _).alloc _).drew) (HgF.out.ext (((Hx7.out.alloc _).alloc _).drew)) (fun c hc _ => ⟨by omega, by have := Hsz7.out; simp [Value.ownBlock]; omega⟩) (by have := Hsz7.out; first | omega | (simp; done) | (simp; omega)) (by simp; omega) (by decide) ?_
                        intro v1 wA hA gA eA
                        have hxA : Ext wr wA := Below.grown ((((Ext.refl wr).alloc _).alloc _).drew) gA (by have := Hsz7.out; first | omega | (simp; done) | (simp; omega)) (fun c hc => by simp [Value.ownBlock] at hc; omega)
                        rw [List.nil_append] at hA
                        refine hK.out _ _ ?_ (fun hHeld => ?_)
                        · (try dsimp only)
                          exact HSd.out _ hxA
                        clear hK K
                        (try simp only [Act.put, List.setIfInBounds_toArray, List.set_cons_zero, List.set_cons_succ])
                        refine wpAnyH_ready (rs := [8]) (by kernel_rfl) (by simp) ?_
                        refine AllReadyH.cons rfl (fun K hK => ?_) ?_
                        · refine step_append_sl (F := fun c => c ≠ bt) (G := fun c => c < w.heap.size ∨ wr.heap.size ≤ c ∧ some c ≠ v1.ownBlock) tyE (by rfl) _ _ 23 42 144 (by rfl) slice23 wr.heap.size v1 g [t] _ _ _ (by rfl) (by rfl) hA (SlF.mono (by have h := sl_one (F := fun c => c < w.heap.size ∨ c = wr.heap.size + 1) (e := 42) (w := wr.alloc (.cells #[] 42)) (tyE.mono _ _ _ _ _ _ (fun _ _ _ => rfl) (fun c hc _ => Or.inl hc) (Elt.ext Hrt.out ((Ext.refl wr).alloc _))) (Or.inr (by simp)); rw [World.size_alloc] at h; exact h.ext (Ext.refl _).drew : SlF (fun c => c < w.heap.size ∨ c = wr.heap.size + 1) tyE ((wr.alloc (.cells #[] 42)).alloc (.cells #[.int .u8 t.kind, .int .i64 t.low, .int .i64 t.high, .bool t.branded, .string t.brand, .string t.opaq, .int .i64 t.super, .slice A1 t.parts.length c1, .slice A2 t.methods.length c2, .slice A3 t.overs.length c3] 42)).drew (.slice (some ⟨wr.heap.size + 1, 0, none⟩) 1 1) [t]) (fun c hc hlt => gA.block c hlt (by have := Hsz7.out; simp [Value.ownBlock]; omega)) (fun c hc hlt => by rcases hc with hc | hc; exact Or.inl hc; exact Or.inr ⟨by omega, by subst hc; rcases eA with e | e <;> rw [e] <;> (first | (simp [Value.ownBlock]; done) | (simp [Value.ownBlock]; omega))⟩)) (fun c hc hlt => ⟨by have := Hsz7.out; omega, by rcases hc with hc | hc; exact fun e => absurd (hA.lt _ e.symm).1 (by omega); exact hc.2⟩) (by have := Hsz7.out; have := hxA.size; first | omega | (simp; omega)) (by simp; omega) (by decide) ?_
                          intro v2 w9 hB gB eB
                          have hx9 : Ext wr w9 := Below.grown (hxA) gB (by have := hxA.size; first | omega | (simp; omega)) (fun c hc => by rcases eA with e | e <;> rw [e] at hc <;> simp [Value.ownBlock] at hc <;> omega)
                          refine hK.out _ _ ?_ (fun hHeld => ?_)
                          · (try dsimp only)
                            exact HSd.out _ hx9
                          clear hK K
                          (try simp only [Act.put, List.setIfInBounds_toArray, List.set_cons_zero, List.set_cons_succ])
                          refine wpAnyH_take (i := 9) (v := ?_) rfl (by kernel_rfl) (by kernel_rfl) (by kernel_rfl) (fun _ _ _ h => h) (Or.inl ⟨by rfl, ?_⟩) (by assumption) ?_
                          rotate_left
                          · intro w hSw
                            (try dsimp only at hSw)
                            go_simp
                            (first | done | with_reducible rfl | exact rfl)
                          (try simp only [Act.put, List.setIfInBounds_toArray, List.set_cons_zero, List.set_cons_succ])
                          refine wpAnyH_done (by kernel_rfl) ?_ _
                          obtain ⟨gb, gc, rfl, hgb, hgc, hrow9⟩ := TyRow.of_own hB (by simp)
                          simp only [List.length_append, List.length_cons, List.length_nil, Nat.zero_add] at hgc
                          simp only [List.length_append, List.length_cons, List.length_nil, Nat.zero_add]
                          go_wp2_with fail
                          go_meet
                          exact ⟨gb, gc, rfl, Lib.hid hgb, Lib.hid hgc, Lib.hid hrow9, Lib.hid hx9⟩
                        exact AllReadyH.nil
                      exact AllReadyH.nil
                    exact AllReadyH.nil
                  refine AllReadyH.cons rfl (fun K hK => ?_) ?_
                  · go_simp
                    refine hK.out _ _ ?_ (fun hHeld => ?_)
                    · (try dsimp only)
                      exact HSd.out _ ((Ext.refl _).alloc _).drew
                    clear hK K
                    (try simp only [Act.put, List.setIfInBounds_toArray, List.set_cons_zero, List.set_cons_succ])
                    refine wpAnyH_ready (rs := [0]) (by kernel_rfl) (by simp) ?_
                    refine AllReadyH.cons rfl (fun K hK => ?_) ?_
                    · go_simp
                      refine hK.out _ _ ?_ (fun hHeld => ?_)
                      · (try dsimp only)
                        exact HSd.out _ (((Ext.refl _).alloc _).alloc _).drew
                      clear hK K
                      (try simp only [Act.put, List.setIfInBounds_toArray, List.set_cons_zero, List.set_cons_succ])
                      refine wpAnyH_ready (rs := [2]) (by kernel_rfl) (by simp) ?_
                      refine AllReadyH.cons rfl (fun K hK => ?_) ?_
                      · refine step_append_sl (F := fun c => c ≠ bt) (G := fun c => c < w.heap.size) tyE (by rfl) _ _ 23 42 144 (by rfl) slice23 wr.heap.size (.slice (some ⟨wr.heap.size + 1, 0, none⟩) 0 0) [] g _ _ _ (by rfl) (by rfl) (by have h := Own.made (fun c => c ≠ bt) tyE (wr.alloc (.cells #[.int .u8 t.kind, .int .i64 t.low, .int .i64 t.high, .bool t.branded, .string t.brand, .string t.opaq, .int .i64 t.super, .slice A1 t.parts.length c1, .slice A2 t.methods.length c2, .slice A3 t.overs.length c3] 42)) wr.heap.size 42 (by have := Hsz7.out; first | omega | (simp; done) | (simp; omega)); rw [World.size_alloc] at h; exact h.kept (Ext.refl _).drew) (HgF.out.ext (((Hx7.out.alloc _).alloc _).drew)) (fun c hc _ => ⟨by omega, by have := Hsz7.out; simp [Value.ownBlock]; omega⟩) (by have := Hsz7.out; first | omega | (simp; done) | (simp; omega)) (by simp; omega) (by decide) ?_
                        intro v1 wA hA gA eA
                        have hxA : Ext wr wA := Below.grown ((((Ext.refl wr).alloc _).alloc _).drew) gA (by have := Hsz7.out; first | omega | (simp; done) | (simp; omega)) (fun c hc => by simp [Value.ownBlock] at hc; omega)
                        rw [List.nil_append] at hA
                        refine hK.out _ _ ?_ (fun hHeld => ?_)
                        · (try dsimp only)
                          exact HSd.out _ hxA
                        clear hK K
                        (try simp only [Act.put, List.setIfInBounds_toArray, List.set_cons_zero, List.set_cons_succ])
                        refine wpAnyH_ready (rs := [8]) (by kernel_rfl) (by simp) ?_
                        refine AllReadyH.cons rfl (fun K hK => ?_) ?_
                        · refine step_append_sl (F := fun c => c ≠ bt) (G := fun c => c < w.heap.size ∨ wr.heap.size ≤ c ∧ some c ≠ v1.ownBlock) tyE (by rfl) _ _ 23 42 144 (by rfl) slice23 wr.heap.size v1 g [t] _ _ _ (by rfl) (by rfl) hA (SlF.mono ((sl_one (F := fun c => c < w.heap.size ∨ c = wr.heap.size) (e := 42) (w := wr) (tyE.mono _ _ _ _ _ _ (fun _ _ _ => rfl) (fun c hc _ => Or.inl hc) Hrt.out) (Or.inr rfl)).ext ((Ext.refl _).alloc _).drew : SlF (fun c => c < w.heap.size ∨ c = wr.heap.size) tyE ((wr.alloc (.cells #[.int .u8 t.kind, .int .i64 t.low, .int .i64 t.high, .bool t.branded, .string t.brand, .string t.opaq, .int .i64 t.super, .slice A1 t.parts.length c1, .slice A2 t.methods.length c2, .slice A3 t.overs.length c3] 42)).alloc (.cells #[] 42)).drew (.slice (some ⟨wr.heap.size, 0, none⟩) 1 1) [t]) (fun c hc hlt => gA.block c hlt (by have := Hsz7.out; simp [Value.ownBlock]; omega)) (fun c hc hlt => by rcases hc with hc | hc; exact Or.inl hc; exact Or.inr ⟨by omega, by subst hc; rcases eA with e | e <;> rw [e] <;> (first | (simp [Value.ownBlock]; done) | (simp [Value.ownBlock]; omega))⟩)) (fun c hc hlt => ⟨by have := Hsz7.out; omega, by rcases hc with hc | hc; exact fun e => absurd (hA.lt _ e.symm).1 (by omega); exact hc.2⟩) (by have := Hsz7.out; have := hxA.size; first | omega | (simp; omega)) (by simp; omega) (by decide) ?_
                          intro v2 w9 hB gB eB
                          have hx9 : Ext wr w9 := Below.grown (hxA) gB (by have := hxA.size; first | omega | (simp; omega)) (fun c hc => by rcases eA with e | e <;> rw [e] at hc <;> simp [Value.ownBlock] at hc <;> omega)
                          refine hK.out _ _ ?_ (fun hHeld => ?_)
                          · (try dsimp only)
                            exact HSd.out _ hx9
                          clear hK K
                          (try simp only [Act.put, List.setIfInBounds_toArray, List.set_cons_zero, List.set_cons_succ])
                          refine wpAnyH_take (i := 9) (v := ?_) rfl (by kernel_rfl) (by kernel_rfl) (by kernel_rfl) (fun _ _ _ h => h) (Or.inl ⟨by rfl, ?_⟩) (by assumption) ?_
                          rotate_left
                          · intro w hSw
                            (try dsimp only at hSw)
                            go_simp
                            (first | done | with_reducible rfl | exact rfl)
                          (try simp only [Act.put, List.setIfInBounds_toArray, List.set_cons_zero, List.set_cons_succ])
                          refine wpAnyH_done (by kernel_rfl) ?_ _
                          obtain ⟨gb, gc, rfl, hgb, hgc, hrow9⟩ := TyRow.of_own hB (by simp)
                          simp only [List.length_append, List.length_cons, List.length_nil, Nat.zero_add] at hgc
                          simp only [List.length_append, List.length_cons, List.length_nil, Nat.zero_add]
                          go_wp2_with fail
                          go_meet
                          exact ⟨gb, gc, rfl, Lib.hid hgb, Lib.hid hgc, Lib.hid hrow9, Lib.hid hx9⟩
                        exact AllReadyH.nil
                      exact AllReadyH.nil
                    exact AllReadyH.nil
                  exact AllReadyH.nil
                case rest =>
                  obtain ⟨gb, gc, rfl, Hgb, Hgc, Hr9, Hx9⟩ := hcut
                  have hgbt : gb ≠ bt := by have := Hgb.out; omega
                  have hrow := Hrow7.out.ext Hx9.out
                  have c0 := hrow.cell k (by rw [twinTo_length]; exact hkn)
                  have f0 := hrow.frozen k
                  have l0 := cell_lt c0
                  have HrowS := Lib.hid (hrow.set k g.length)
                  have Hr10 := Lib.hid (Hr9.out.other hgbt (fun c hc => hc) k (.int .i64 (g.length : Int)))
                  have Hx10 := Lib.hid ((Hx7.out.trans Hx9.out).setCell (p := ⟨bt, k, none⟩) hbb (.int .i64 (g.length : Int)))
                  clear hrow HSd HgF Hrt Hr9 Hrow7
                  go_upto_region 31 with fail
                  clear c0 f0 l0
                  generalize wc.setCell ⟨bt, k, none⟩ (.int .i64 (g.length : Int)) = w10 at *
                  obtain ⟨b', off', vp, vm, vo, eA, hat, hof⟩ := Hs.out i hi
                  simp only [Option.some.injEq, Addr.mk.injEq, and_true] at eA
                  obtain ⟨rfl, rfl⟩ := eA
                  rw [← getT_lt hi] at hat hof
                  have hfine := HW.out.fine (getT_mem hi)
                  have hsl : ∀ w', Ext w10 w' → Sl intE w' (.slice (some ⟨bt, 0, none⟩) g.length g.length) (((twinTo g.length k g.length).set k g.length).map fun (n : Nat) => (n : Int)) := fun w' hx => by
                    have h := (HrowS.out.ext hx).sl g.length (by rw [List.length_set, twinTo_length]; exact Nat.le_refl _)
                    rwa [List.length_set, twinTo_length] at h
                  have hrt := fun w' (hx : Ext w10 w') => rturned_any w' g.length (getT g i) vp vm vo _ _ (hof.mono (Hx10.out.trans hx)) hfine (hsl w' hx) (by rw [List.length_map, List.length_set, twinTo_length]; omega) (fun r hr => by rw [List.length_map, List.length_set, twinTo_length]; exact hfine.refs r hr)
                  rw [HTw.out] at hrt
                  obtain ⟨B1, b1, e1⟩ := hof.parts.len
                  obtain ⟨B2, b2, e2⟩ := hof.methods.len
                  obtain ⟨B3, b3, e3⟩ := hof.overs.len
                  subst e1 e2 e3
                  unfold tyV at hrt
                  have Hrt := Lib.hid hrt
                  obtain ⟨d0, d1, d2, d3, d4, d5, d6, d7, d8, d9⟩ := hat.mono Hx10.out
                  have ld := cell_lt d0
                  clear hrt hsl hfine hof hat
                  generalize getT g i = y at *
                  go_wp2_with fail
                  clear d0 d1 d2 d3 d4 d5 d6 d7 d8 d9 ld
                  refine (Hrt.out _ (Ext.refl _)).mono ?_
                  rintro e w11 ⟨v11, rfl, ⟨cs11, hrel11, rfl⟩, hx11⟩
                  have Hrel11 := Lib.hid hrel11
                  obtain ⟨_, _, _, rfl, ⟨_, _, rfl, _⟩, ⟨_, _, rfl, _⟩, ⟨_, _, rfl, _⟩⟩ := hrel11
                  have hty := Hr10.out.ext hx11
                  have hil : i < (g ++ [t]).length := by simp; omega
                  obtain ⟨r5, hr5, hc5⟩ := hty.at (j := i) hil
                  obtain ⟨_, _, _, rfl, ⟨_, _, rfl, _⟩, ⟨_, _, rfl, _⟩, ⟨_, _, rfl, _⟩⟩ := hr5
                  have z0 : w11.cell? ⟨gb, i * 10, none⟩ = some _ := hc5 0 _ rfl
                  have z1 := hc5 1 _ rfl
                  have z2 := hc5 2 _ rfl
                  have z3 := hc5 3 _ rfl
                  have z4 := hc5 4 _ rfl
                  have z5 := hc5 5 _ rfl
                  have z6 := hc5 6 _ rfl
                  have z7 := hc5 7 _ rfl
                  have z8 := hc5 8 _ rfl
                  have z9 := hc5 9 _ rfl
                  have f0 := hty.frozen (i * 10)
                  have f1 := hty.frozen (i * 10 + 1)
                  have f2 := hty.frozen (i * 10 + 2)
                  have f3 := hty.frozen (i * 10 + 3)
                  have f4 := hty.frozen (i * 10 + 4)
                  have f5 := hty.frozen (i * 10 + 5)
                  have f6 := hty.frozen (i * 10 + 6)
                  have f7 := hty.frozen (i * 10 + 7)
                  have f8 := hty.frozen (i * 10 + 8)
                  have f9 := hty.frozen (i * 10 + 9)
                  have lz := cell_lt z0
                  have k0 : (0 : Int) ≤ (i : Int) := by omega
                  have k1 : (i : Int) < (g.length : Int) + 1 := by omega
                  have hrel6 := tyE.mono (New w10) (fun c => c ≠ bt ∧ c ≠ gb) w11 w11 _ _ (fun _ _ _ => rfl) (fun c hc _ => by have h1 := Hr10.out.lt; have h2 := HrowS.out.lt; unfold New at hc; omega) Hrel11.out
                  have hst := row_store (w0 := w) (Hx10.out.trans hx11) (by have := Hgb.out; have := Hx7.out.size; omega) hty (HrowS.out.ext hx11) (fun e => hgbt e.symm) hil hrel6
                  have Hst := Lib.hid hst
                  clear hst hrel6 Hrel11 hty hc5
                  simp only [pack]
                  go_upto_region 32 with fail
                  obtain ⟨s1, s2, s3⟩ := Hst.out
                  clear z0 z1 z2 z3 z4 z5 z6 z7 z8 z9 f0 f1 f2 f3 f4 f5 f6 f7 f8 f9 lz Hst Hrt
                  rw [Hws.out] at s2
                  have wlen : (wideL g k i).length = g.length + 1 := by simp [wideL]
                  have hsl12 := (s2.slF hgbt (cap := gc) (by rw [wlen]; exact Hgc.out)).any
                  rw [wlen] at hsl12
                  have htx := fun w' hx => Text_any w' _ _ (i : Int) (hsl12.mono hx) HWT.out (HG.out.mono (s1.trans hx))
                  have heq := fun w' hx => equal_any w' _ _ (k : Int) (g.length : Int) (hsl12.mono hx) HWT.out (HG.out.mono (s1.trans hx))
                  rw [HWF.out.err1, HWF.out.text, Htx0.out] at htx
                  rw [HWF.out.err2, HWF.out.same] at heq
                  have Htx := Lib.hid htx
                  have Heqq := Lib.hid heq
                  have S1 := Lib.hid s1
                  clear htx heq hsl12 wlen s1 s2 s3
                  go_wp2_with fail
                  refine (Htx.out _ (Ext.refl _)).mono ?_
                  rintro e w13 ⟨rfl, hx13⟩
                  have Hx13 := Lib.hid hx13
                  clear hx13
                  go_wp2_with fail
                  refine (Heqq.out _ Hx13.out).mono ?_
                  rintro e w14 ⟨rfl, hx14⟩
                  have Hx14 := Lib.hid (S1.out.trans (Hx13.out.trans hx14))
                  clear hx14
                  go_wp2_with fail
                  refine (Hal.out _ Hx14.out).mono ?_
                  rintro e w15 ⟨rfl, hx15⟩
                  have q1 : (tx.toList == tx.toList) = true := by simp
                  go_wp2_with fail
                  go_ret
                  exact ⟨rfl, Hx14.out.trans hx15⟩
end Go.Proofs.YtldnjnnhfeobdaaGreatDoor
