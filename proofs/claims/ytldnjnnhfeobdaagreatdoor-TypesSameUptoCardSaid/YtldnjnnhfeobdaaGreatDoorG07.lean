/- Parts of the proof, joined: Contract: Apart. Conditions: lengths below 2^20; Contracts: types in new memory with other references: what is called for parts and methods; slices.Clone. Conditions: lengths below 2^20; Contracts: slices.Clone of words and of rules; the append of a whole slice. Conditions: lengths below 2^20; Contracts: a method in new memory with other references. Conditions: lengths below 2^20; Contract: a type in new memory with other references. Conditions: lengths below 2^20; Contract: Merge. Conditions: lengths below 2^20. -/
import Derived.WalkMore
import Derived.Deep.LoopGhost
import Derived.Deep.AppendLies
import Derived.Deep.RegionHeld3
import Derived.RangeFuncBox
import Derived.Lib.SliceRun
import Derived.Deep.DeepCutAuto
import Derived.Test.YtldnjnnhfeobdaaGreatDoorG05
import Derived.Test.YtldnjnnhfeobdaaGreatDoorG06
import Derived.Test.YtldnjnnhfeobdaaGreatDoorG04
namespace Go.Proofs.YtldnjnnhfeobdaaGreatDoor
set_option linter.all false
set_option linter.unusedSimpArgs false
set_option linter.unusedVariables false
open Go.RowKit Go.Shelf

def apartG (g : Graph) (a b : Int) : Option (List Nat) := if errG g [a, b] = 0 then wayN (agN g) (refsN g) g.length a.toNat b.toNat else none
def ApartPost (w : World) (r : Option (List Nat)) (er : Int) (e : Ending) (w' : World) : Prop :=
  ∃ v, e = .returned (.tuple #[v, .bool r.isSome, .int .i64 er]) ∧ Sl intE w' v ((r.getD []).map fun (n : Nat) => (n : Int)) ∧ Ext w w'
def castP (p : Nat × Nat) : Int × Int := ((p.1 : Int), (p.2 : Int))
theorem Boxed.lt' {w : World} {b : Nat} {t : TypeId} {v : Value} (h : Boxed w b t v) : b < w.heap.size := (Array.getElem?_eq_some_iff.1 h).1
/-- the pairs that have been seen, as a map -/
def seenF (s : List (Nat × Nat)) : Int × Int → Option Value := fun q => if q ∈ s.map castP then some (.bool true) else none
theorem castP_inj {p q : Nat × Nat} (h : castP p = castP q) : p = q := by
  obtain ⟨a, b⟩ := p
  obtain ⟨c, d⟩ := q
  simp only [castP, Prod.mk.injEq] at h
  obtain ⟨h1, h2⟩ := h
  have h1 : a = c := by omega
  have h2 : b = d := by omega
  rw [h1, h2]
theorem castP_mem {p : Nat × Nat} {s : List (Nat × Nat)} : castP p ∈ s.map castP ↔ p ∈ s :=
  ⟨fun h => by obtain ⟨q, hq, e⟩ := List.mem_map.1 h; rw [← castP_inj e]; exact hq, fun h => List.mem_map_of_mem h⟩
theorem seenF_getD (s : List (Nat × Nat)) (p : Nat × Nat) : (seenF s (castP p)).getD (.bool false) = .bool (decide (p ∈ s)) := by
  unfold seenF
  by_cases h : p ∈ s
  · rw [if_pos (castP_mem.2 h)]; simp [h]
  · rw [if_neg (fun h' => h (castP_mem.1 h'))]; simp [h]
theorem seenF_put (s : List (Nat × Nat)) (p : Nat × Nat) : put (seenF s) (castP p) (.bool true) = seenF (s ++ [p]) := by
  funext q
  unfold put seenF
  by_cases h : q = castP p
  · simp [h]
  · rw [if_neg h]
    have : q ∈ (s ++ [p]).map castP ↔ q ∈ s.map castP := by
      rw [List.map_append, List.mem_append, List.map_cons, List.map_nil, List.mem_singleton]
      exact ⟨fun h' => h'.elim id (fun e => absurd e h), .inl⟩
    by_cases h2 : q ∈ s.map castP
    · rw [if_pos h2, if_pos (this.2 h2)]
    · rw [if_neg h2, if_neg (fun h' => h2 (this.1 h'))]
theorem seenF_nil : seenF [] = fun _ => none := by funext q; simp [seenF]

/-- ways are short -/
structure WInv (dn : List Spot) (s : List (Nat × Nat)) (o : List Spot) : Prop where
  eq : s = (dn ++ o).map (·.1)
  le : ∀ e ∈ dn ++ o, e.2.length ≤ dn.length
theorem WInv.init (a b : Nat) : WInv [] [(a, b)] [((a, b), [])] := ⟨rfl, by simp⟩
theorem WInv.step {dn : List Spot} {s : List (Nat × Nat)} {x : Spot} {o : List Spot} (ps : List (Nat × Nat)) (h : WInv dn s (x :: o)) : WInv (dn ++ [x]) (pushN x.2 0 ps s o).1 (pushN x.2 0 ps s o).2 := by
  obtain ⟨new, h1, h2, _⟩ := pushN_spec x.2 ps 0 s o
  rw [h1]
  refine ⟨by rw [h.eq]; simp, fun e he => ?_⟩
  have hx := h.le x (by simp)
  rw [List.length_append, List.length_singleton]
  rcases List.mem_append.1 he with he | he
  · have := h.le e (by rcases List.mem_append.1 he with he | he <;> simp_all)
    omega
  · rcases List.mem_append.1 he with he | he
    · have := h.le e (by simp [he]); omega
    · obtain ⟨_, m, hm, _, e2⟩ := h2 e he
      rw [e2]; simp; omega
theorem WInv.bound {n : Nat} {ag : Nat → Nat → Bool} {rf : Nat → List Nat} {a b : Nat} {dn : List Spot} {s : List (Nat × Nat)} {o : List Spot} (h : WInv dn s o) (I : Inv n ag rf a b dn s o) (hn : n ≤ 400) : o.length ≤ 160000 ∧ ∀ e ∈ o, e.2.length ≤ 160000 := by
  have h1 := I.seen_le
  have h2 : n * n ≤ 400 * 400 := Nat.mul_le_mul hn hn
  have h3 := congrArg List.length h.eq
  rw [List.length_map, List.length_append] at h3
  exact ⟨by omega, fun e he => by have := h.le e (by simp [he]); omega⟩
theorem pushN_len (way : List Nat) : ∀ ps k s o, (pushN way k ps s o).2.length ≤ o.length + ps.length
  | [], k, s, o => by simp [pushN]
  | p :: ps, k, s, o => by
    unfold pushN
    split
    · have := pushN_len way ps (k + 1) s o; simp; omega
    · have := pushN_len way ps (k + 1) (s ++ [p]) (o ++ [(p, way ++ [k])]); simp at this ⊢; omega
/-! ### what holds while the search runs -/
section
variable {w wr wr' : World} {b0 mb bx : Nat} {A : Option Addr} {cap n : Nat} {s : List (Nat × Nat)} {o : List Spot} {v vw va vb : Value} {x : Spot} {rf : Nat → List Nat}
structure ASt (w : World) (b0 mb : Nat) (A : Option Addr) (cap n : Nat) (s : List (Nat × Nat)) (o : List Spot) (v : Value) (wr : World) : Prop where
  ext : Ext w wr
  gbox : Boxed wr b0 77 (.slice A n cap)
  que : QueE (fun b => b ≠ mb) spotE wr w.heap.size v o
  seen : MapF pairK wr mb (seenF s)
  nb : w.heap.size ≤ mb ∧ mb ≠ b0 ∧ v.ownBlock ≠ some mb ∧ v.ownBlock ≠ some b0
theorem ASt.later (h : ASt w b0 mb A cap n s o v wr) (hx : Ext wr wr') : ASt w b0 mb A cap n s o v wr' :=
  ⟨h.ext.trans hx, Boxed.ext h.gbox hx, h.que.ext hx, h.seen.ext hx, h.nb⟩
theorem ASt.mark (h : ASt w b0 mb A cap n s o v wr) {p : Nat × Nat} (hm : MapF pairK wr' mb (put (seenF s) (castP p) (.bool true))) (hg : wr.grownBy wr' (some mb)) : ASt w b0 mb A cap n (s ++ [p]) o v wr' :=
  ⟨Below.grown h.ext hg h.ext.size (fun k hk => by cases hk; exact h.nb.1), (hg.block b0 (Boxed.lt' h.gbox) (fun e => h.nb.2.1 (by injection e with e; exact e.symm))).trans h.gbox, h.que.kept hg h.nb.2.2.1 (fun b hb e => hb (by injection e)),
   by rw [← seenF_put]; exact hm, h.nb⟩
/-- .. while the references of x are looked through -/
structure BSt (w : World) (b0 mb bx : Nat) (A : Option Addr) (cap n : Nat) (rf : Nat → List Nat) (x : Spot) (vw va vb : Value) (s : List (Nat × Nat)) (o : List Spot) (v : Value) (wr : World) : Prop where
  st : ASt w b0 mb A cap n s (x :: o) v wr
  box : wr.heap[bx]? = some (.cells #[.int .i64 (x.1.1 : Int), .int .i64 (x.1.2 : Int), vw] 82 (0, 0))
  way : SlF (fun b => b ≠ mb ∧ some b ≠ v.ownBlock) intE wr vw (x.2.map fun (n : Nat) => (n : Int))
  la : SlF (fun b => b ≠ mb ∧ some b ≠ v.ownBlock) intE wr va ((rf x.1.1).map fun (n : Nat) => (n : Int))
  lb : SlF (fun b => b ≠ mb ∧ some b ≠ v.ownBlock) intE wr vb ((rf x.1.2).map fun (n : Nat) => (n : Int))
  nbx : w.heap.size ≤ bx ∧ bx ≠ mb ∧ bx ≠ b0 ∧ v.ownBlock ≠ some bx
theorem BSt.later (h : BSt w b0 mb bx A cap n rf x vw va vb s o v wr) (hx : Ext wr wr') : BSt w b0 mb bx A cap n rf x vw va vb s o v wr' :=
  ⟨h.st.later hx, hx.heap h.box, h.way.ext hx, h.la.ext hx, h.lb.ext hx, h.nbx⟩
theorem BSt.lt (h : BSt w b0 mb bx A cap n rf x vw va vb s o v wr) : bx < wr.heap.size := (Array.getElem?_eq_some_iff.1 h.box).1
theorem BSt.mark (h : BSt w b0 mb bx A cap n rf x vw va vb s o v wr) {p : Nat × Nat} (hm : MapF pairK wr' mb (put (seenF s) (castP p) (.bool true))) (hg : wr.grownBy wr' (some mb)) : BSt w b0 mb bx A cap n rf x vw va vb (s ++ [p]) o v wr' :=
  have hk : ∀ b, b ≠ mb ∧ some b ≠ v.ownBlock → b < wr.heap.size → wr'.heap[b]? = wr.heap[b]? := fun b hb hlt => hg.block b hlt (fun e => hb.1 (by injection e))
  ⟨h.st.mark hm hg, (hg.block bx h.lt (fun e => h.nbx.2.1 (by injection e))).trans h.box, h.way.mono hk (fun _ h _ => h), h.la.mono hk (fun _ h _ => h), h.lb.mono hk (fun _ h _ => h), h.nbx⟩
/-- behind the append to the queue -/
theorem BSt.push (h : BSt w b0 mb bx A cap n rf x vw va vb s o v wr) {p : Nat × Nat} {k : Nat} {w4 w5 : World} {v1 v5 : Value} {rows : List (List Value)} {e : TypeId} (hx4 : Ext wr w4)
    (hl : rows.length = (x :: o).length) (hr : ∀ (i : Nat) (y : Spot) (r : List Value), (x :: o)[i]? = some y → rows[i]? = some r → spotE.rel (fun b => b ≠ mb ∧ some b ≠ v.ownBlock) wr y r)
    (hv1 : SlF (New wr) intE w4 v1 ((x.2 ++ [k]).map fun (n : Nat) => (n : Int)))
    (hq : Que w5 w.heap.size 3 v5 ((x :: o).length + 1) (rows.flatten ++ [.int .i64 (p.1 : Int), .int .i64 (p.2 : Int), v1])) (hg : w4.grownBy w5 v.ownBlock) (hat : v5.ownBlock = v.ownBlock ∨ ∃ b, v5.ownBlock = some b ∧ w4.heap.size ≤ b) :
    BSt w b0 mb bx A cap n rf x vw va vb s (o ++ [(p, x.2 ++ [k])]) v5 w5 := by
  have hb := h.later hx4
  have hvlt := h.st.que.lt
  have hsz := hx4.size
  have hy : spotE.rel (fun b => b ≠ mb ∧ some b ≠ v.ownBlock) w4 (p, x.2 ++ [k]) [.int .i64 (p.1 : Int), .int .i64 (p.2 : Int), v1] :=
    ⟨v1, rfl, hv1.mono (fun _ _ _ => rfl) (fun b hb' hlt => ⟨by have := h.st.seen.lt; unfold New at hb'; omega, fun e => by have := (hvlt b e.symm).2; unfold New at hb'; omega⟩)⟩
  have hqe : QueE (fun b => b ≠ mb) spotE w5 w.heap.size v5 ((x :: o) ++ [(p, x.2 ++ [k])]) :=
    QueE.push hl (fun i y r h1 h2 => Elt.ext (hr i y r h1 h2) hx4) hy hq hg hat
  have hk : ∀ b, b ≠ mb ∧ some b ≠ v.ownBlock → b < w4.heap.size → w5.heap[b]? = w4.heap[b]? := fun b hb' hlt => hg.block b hlt hb'.2
  have hG : ∀ b, b ≠ mb ∧ some b ≠ v.ownBlock → b < w4.heap.size → b ≠ mb ∧ some b ≠ v5.ownBlock := fun b hb' hlt => ⟨hb'.1, fun e => by
    rcases hat with hat | ⟨b', hat, hle⟩
    · exact hb'.2 (e.trans hat)
    · rw [hat] at e; injection e with e; omega⟩
  have hno : ∀ b, b < w4.heap.size → v.ownBlock ≠ some b → v5.ownBlock ≠ some b := fun b hlt hne e => by
    rcases hat with hat | ⟨b', hat, hle⟩
    · exact hne (hat.symm.trans e)
    · rw [hat] at e; injection e with e; omega
  have hmlt := hb.st.seen.lt
  have h0lt := Boxed.lt' hb.st.gbox
  have hn := hb.st.nb
  refine ⟨⟨Below.grown hb.st.ext hg hb.st.ext.size (fun k hk => (hvlt k hk).1), (hg.block b0 h0lt (fun e => hn.2.2.2 e.symm)).trans hb.st.gbox, by simpa using hqe, hb.st.seen.kept (hg.block mb hmlt (fun e => hn.2.2.1 e.symm)), hn.1, hn.2.1, hno mb hmlt hn.2.2.1, hno b0 h0lt hn.2.2.2⟩,
    (hg.block bx hb.lt (fun e => hb.nbx.2.2.2 e.symm)).trans hb.box, hb.way.mono hk hG, hb.la.mono hk hG, hb.lb.mono hk hG, hb.nbx.1, hb.nbx.2.1, hb.nbx.2.2.1, hno bx hb.lt hb.nbx.2.2.2⟩
end
theorem sl_cells {w : World} {A : Option Addr} {n c : Nat} {xs : List Int} (h : Sl intE w (.slice A n c) xs) (hn : xs.length = n) : (A = none → n = 0 ∧ n = 0) ∧ ∀ b, A = some b → ∀ (j : Nat) (u : Value), (xs.map (Value.int .i64))[j]? = some u → w.cell? (b.add j) = some u := by
  obtain ⟨A', c', e, hc⟩ := h.int
  simp only [Value.slice.injEq] at e
  obtain ⟨rfl, e2, rfl⟩ := e
  refine ⟨fun e => ?_, fun b e j u hj => ?_⟩
  · cases n with
    | zero => exact ⟨rfl, rfl⟩
    | succ n => obtain ⟨b, off, e', _⟩ := hc 0 (by omega); rw [e] at e'; cases e'
  · rw [List.getElem?_map] at hj
    obtain ⟨x, hx, rfl⟩ := Option.map_eq_some_iff.1 hj
    obtain ⟨hlt, rfl⟩ := List.getElem?_eq_some_iff.1 hx
    obtain ⟨b', off, e', hcell⟩ := hc j hlt
    rw [e] at e'
    cases e'
    rw [Addr.add_mid]; exact hcell
theorem slice83 : SliceOf Tryz.prog 83 82 3 40 := .mk' Tryz.underlying83 (by kernel_rfl)
theorem info82 : (Tryz.prog.info? 82).map (fun i => (i.size, i.bytes)) = some (3, 40) := by kernel_rfl

set_option maxRecDepth 100000 in
set_option maxHeartbeats 16000000 in
theorem apart_any (w : World) (gv : Value) (g : Graph) (a b : Int) (hg : Sl tyE w gv g) (hT : Tidy g) (hG : Glob w) :
    Calls Tryz.prog 15 #[gv, .int .i64 a, .int .i64 b] w (ApartPost w (apartG g a b) (errG g [a, b])) := by
  have hop := opened_any (w.alloc (.cells #[.int .i64 a, .int .i64 b] 3)) gv _ g [a, b] (hg.mono ((Ext.refl w).alloc _)) hT (hG.mono ((Ext.refl w).alloc _)) (lit_ints w [a, b] 2 rfl) (by simp)
  have hag := fun (w' : World) (hx : Ext w w') (i j : Nat) (hi : i < g.length) (hj : j < g.length) => agree_any w' gv g i j (hg.mono hx) hT hi hj
  have hls := fun (hW : WF g) (w' : World) (hx : Ext w w') (i : Nat) (hi : i < g.length) => list_any w' gv g i g.length (hg.mono hx) hi hT.len (hW.fine (getT_mem hi))
  have hn := hT.len
  obtain ⟨A, cap, rfl⟩ := hg.len
  unfold apartG
  by_cases h0 : errG g [a, b] = 0
  · rw [if_pos h0]
    rw [h0] at hop ⊢
    obtain ⟨hW, hab⟩ := errG_zero h0
    obtain ⟨a0, a1⟩ := hab a (by simp)
    obtain ⟨b0, b1⟩ := hab b (by simp)
    obtain ⟨i, rfl⟩ := Int.eq_ofNat_of_zero_le a0
    obtain ⟨j, rfl⟩ := Int.eq_ofNat_of_zero_le b0
    rw [Int.toNat_natCast, Int.toNat_natCast]
    have hls' : ∀ (w' : World) (hx : Ext w w') (i : Nat) (hi : i < g.length), Calls Tryz.prog 56 #[.agg #[.slice A g.length cap], .int .i64 i] w' (RetP w' (ResSl intE w' ((refsN g i).map fun (n : Nat) => (n : Int)))) := fun w' hx i hi => by
      have h := hls hW w' hx i hi
      rwa [refsL_nat hW hi] at h
    have hi : i < g.length := by omega
    have hj : j < g.length := by omega
    have G := hW.abs
    have hsr := wayN_srch G hi hj
    have hInv := Inv.init (rf := refsN g) (ag := agN g) hi hj
    generalize wayN (agN g) (refsN g) g.length i j = res at hsr ⊢
    have HG := Lib.hid G
    have Hsr := Lib.hid hsr
    have HI := Lib.hid hInv
    have Hop := Lib.hid hop
    have Hag := Lib.hid hag
    have Hls := Lib.hid hls'
    have HW := Lib.hid hW
    have Hrl := Lib.hid (fun (i : Nat) (hi : i < g.length) => (refsN_length g i).symm ▸ (hW.fine (getT_mem hi)).refs_le)
    have hmm := @run_makeMap Tryz.prog
    clear hop hag hls hls' hg hT h0 hab hW a0 a1 b0 b1 G hsr hInv hG
    go_enter Tryz.func15, Tryz.ntmps15
    go_wp2_with fail
    go_step3
    go_wp2_with fail
    refine Hop.out.mono ?_
    rintro e w1 ⟨rfl, hx1⟩
    have Hx1 := Lib.hid ((((Ext.refl w).alloc (.cells #[.int .i64 i, .int .i64 j] 3)).trans hx1).alloc (.cells #[.slice A g.length cap] 77))
    have Hbx := Lib.hid (show Boxed (w1.alloc (.cells #[.slice A g.length cap] 77)) w1.heap.size 77 (.slice A g.length cap) from heap_alloc_self _ _)
    clear hx1
    have hmd := MapF.made pairK (w1.alloc (.cells #[.slice A g.length cap] 77))
    rw [World.size_alloc] at hmd
    have Hmd := Lib.hid hmd
    clear hmd
    go_wp2_with (refine wpList_insert_F pairK (by rfl) _ _ _ 80 4 (by rfl) Tryz.underlying80 _ _ ((i : Int), (j : Int)) (by rfl) (by rfl) Hmd.out ?_; intro w3 hm3 hg3)
    have hst0 : ASt w w1.heap.size (w1.heap.size + 1) A cap g.length [(i, j)] [((i, j), [])] (.slice (some ⟨w3.heap.size, 0, none⟩) 1 1) (w3.alloc (.cells #[.int .i64 (i : Int), .int .i64 (j : Int), .slice none 0 0] 82)) := by
      have hx3 : Ext (w1.alloc (.cells #[.slice A g.length cap] 77)) w3 := by
        refine Below.grown (((Ext.refl _).alloc _)) hg3 (by simp) ?_
        intro k hk; cases hk; simp
      have hsz := hx3.size
      have hx := Hx1.out
      have hsx := hx.size
      have hw3 : w1.heap.size + 1 < w3.heap.size := by have := hg3.size; simp at this; omega
      have hne := MapF.lt hm3
      rw [World.size_alloc] at hsx hsz
      refine ⟨(hx.trans hx3).alloc _, Boxed.ext (Boxed.ext Hbx.out hx3) ((Ext.refl _).alloc _), ?_, ?_, ?_⟩
      · exact QueE.made (E := spotE) (news := [.int .i64 (i : Int), .int .i64 (j : Int), .slice none 0 0]) (y := ((i, j), [])) (by have := (hx.trans hx3).size; exact this) ⟨_, rfl, SlF.nil _ _ _⟩ (fun _ _ _ => trivial)
      · have e : put (fun _ => none) ((i : Int), (j : Int)) (.bool true) = seenF [(i, j)] := by
          rw [← seenF_nil, show ((i : Int), (j : Int)) = castP (i, j) from rfl, seenF_put]; rfl
        have := hm3.ext ((Ext.refl w3).alloc (.cells #[.int .i64 (i : Int), .int .i64 (j : Int), .slice none 0 0] 82))
        rw [← e]; exact this
      · refine ⟨by omega, by omega, ?_, ?_⟩ <;> (simp [Value.ownBlock]; omega)
    have Hst0 := Lib.hid hst0
    clear hst0 Hmd hm3 hg3 Hx1 Hbx
    go_step3
    go_wp2_with fail
    generalize w3.alloc (.cells #[.int .i64 (i : Int), .int .i64 (j : Int), .slice none 0 0] 82) = w4 at Hst0 ⊢
    generalize w3.heap.size = bq at Hst0 ⊢
    go_loopg [12, 13, 14] (leftN g.length [(i, j)] [((i, j), [])]) (fun m tO ti v wr => ∃ (s : List (Nat × Nat)) (o dn : List Spot), tO = .slice none 0 0 ∧ ti = .bool false ∧ Hid (ASt w w1.heap.size (w1.heap.size + 1) A cap g.length s o v wr) ∧ Hid (Inv g.length (agN g) (refsN g) i j dn s o) ∧ Hid (Srch (agN g) (refsN g) s o res) ∧ leftN g.length s o ≤ m ∧ Hid (WInv dn s o))
    case atStart => exact ⟨_, _, _, rfl, rfl, Hst0, HI, Hsr, Nat.le_refl _, Lib.hid (WInv.init i j)⟩
    case round =>
      clear Hst0 HI Hsr
      obtain ⟨s, o, dn, rfl, rfl, Hst, HI, Hsr, hleft, Hwi⟩ := hrel
      obtain ⟨hol, hwl⟩ := Hwi.out.bound HI.out HW.out.len
      cases o with
      | nil =>
        have hres : res = none := by have := Hsr.out; cases this; rfl
        obtain ⟨rows, hl, ⟨_, gq, off, capq, rfl, _⟩, _⟩ := Hst.out.que
        clear hl HI Hsr hleft hol hwl Hwi
        subst hres
        rw [List.length_nil]
        go_wp2_with fail
        try rw [Exit.noGoto_ret]
        go_ret3
        exact ⟨_, rfl, Sl.nil _ _, Hst.out.ext⟩
      | cons x o =>
        obtain ⟨gq, off, capq, r, rfl, hcq, hcm, hrel, hcell⟩ := Hst.out.que.head
        obtain ⟨vw, rfl, hvw⟩ := hrel
        obtain ⟨hi1, hj1⟩ := HI.out.rng x (by simp)
        have d0 := hcell 0 _ rfl
        have d1 := hcell 1 _ rfl
        have d2 := hcell 2 _ rfl
        rw [Nat.add_zero] at d0
        have l0 := cell_lt d0
        have cb := Hst.out.gbox.cell
        have lb := cell_lt cb
        have hcap0 : (0 : Int) < ((o.length + 1 : Nat) : Int) := by omega
        have Hvw := Lib.hid hvw
        obtain ⟨Aw, cw, rfl⟩ := hvw.any.len
        rw [List.length_map] at d2 Hvw
        clear hvw hcell
        obtain ⟨⟨p, q⟩, way⟩ := x
        have hwy : way.length ≤ 160000 := hwl _ (List.mem_cons_self ..)
        have hol2 : o.length + 1 ≤ 160000 := by simpa using hol
        have Hwl := Lib.hid hwl
        clear hwl hol
        have hbx0 := heap_alloc_self wr (.cells #[.int .i64 (p : Int), .int .i64 (q : Int), .slice Aw way.length cw] 82)
        have Hbx0 := Lib.hid hbx0
        have hxa : Ext wr (wr.alloc (.cells #[.int .i64 (p : Int), .int .i64 (q : Int), .slice Aw way.length cw] 82)) := (Ext.refl wr).alloc _
        have Hxa := Lib.hid hxa
        cases ha : agN g p q
        · have Ha := Lib.hid ha
          have hres : res = some way := by
            have h := Hsr.out
            cases h with
            | hit _ _ _ h => rfl
            | go _ _ _ _ h => rw [show agN g p q = true from h] at ha; cases ha
          subst hres
          clear hbx0 ha hxa HI Hsr hleft Hwi Hwl
          go_wp2_with fail
          refine (Hag.out _ (Hst.out.ext.trans Hxa.out) p q hi1 hj1).mono ?_
          rintro e w5 ⟨rfl, hx5⟩
          rw [Ha.out]
          have c2 := heap_cell (hx5.heap Hbx0.out) 2 _ rfl
          have lc := cell_lt c2
          have Hx5 := Lib.hid (Hxa.out.trans hx5)
          clear hx5
          go_wp2_with fail
          try rw [Exit.noGoto_ret]
          go_ret3
          exact ⟨_, rfl, (Hvw.out.ext Hx5.out).any, Hst.out.ext.trans Hx5.out⟩
        · have Ha := Lib.hid ha
          have hI2 := HI.out.step HG.out ha
          have hL2 := HI.out.left HG.out ha
          have hS2 : Srch (agN g) (refsN g) (pushN way 0 (kidsN (refsN g) (p, q)) s o).1 (pushN way 0 (kidsN (refsN g) (p, q)) s o).2 res := by
            have h := Hsr.out
            cases h with
            | hit _ _ _ h => rw [show agN g p q = false from h] at ha; cases ha
            | go _ _ _ _ _ h => exact h
          have HI2 := Lib.hid hI2
          have HW2 := Lib.hid (Hwi.out.step (kidsN (refsN g) (p, q)))
          have HS2 := Lib.hid hS2
          have HL2 := Lib.hid hL2
          have Hleft := Lib.hid hleft
          have hlen := HG.out.len p q hi1 hj1 ha
          have Hlen := Lib.hid hlen
          clear hbx0 ha hxa HI Hsr hleft hI2 hS2 hL2 hlen Hwi Hwl
          go_wp2_with fail
          refine (Hag.out _ (Hst.out.ext.trans Hxa.out) p q hi1 hj1).mono ?_
          rintro e w5 ⟨rfl, hx5⟩
          rw [Ha.out]
          have c0 := heap_cell (hx5.heap Hbx0.out) 0 _ rfl
          have c1 := heap_cell (hx5.heap Hbx0.out) 1 _ rfl
          have c2 := heap_cell (hx5.heap Hbx0.out) 2 _ rfl
          replace cb := (Hxa.out.trans hx5).cell cb
          have lc := cell_lt c2
          replace lb := cell_lt cb
          have Hx5 := Lib.hid (Hxa.out.trans hx5)
          have Hb5 := Lib.hid (hx5.heap Hbx0.out)
          clear hx5 d0 d1 d2 l0
          go_wp2_with fail
          refine (Hls.out _ (Hst.out.ext.trans Hx5.out) q hj1).mono ?_
          rintro e w6 ⟨vb, rfl, hvb, hx6⟩
          obtain ⟨Ab, cbb, eb⟩ := hvb.any.len
          rw [List.length_map] at eb
          subst eb
          have Hvb := Lib.hid hvb
          have Hx6 := Lib.hid (Hx5.out.trans hx6)
          have Hb6 := Lib.hid (hx6.heap Hb5.out)
          replace c0 := hx6.cell c0
          replace c1 := hx6.cell c1
          replace c2 := hx6.cell c2
          replace cb := hx6.cell cb
          replace lc := cell_lt c2
          replace lb := cell_lt cb
          clear hvb hx6
          go_wp2_with fail
          refine (Hls.out _ (Hst.out.ext.trans Hx6.out) p hi1).mono ?_
          rintro e w7 ⟨va, rfl, hva, hx7⟩
          obtain ⟨Aa, caa, ea⟩ := hva.any.len
          rw [List.length_map] at ea
          subst ea
          have hst7 : BSt w w1.heap.size (w1.heap.size + 1) wr.heap.size A cap g.length (refsN g) ((p, q), way) (.slice Aw way.length cw) (.slice Aa (refsN g p).length caa) (.slice Ab (refsN g q).length cbb) s o (.slice (some ⟨gq, off, none⟩) (o.length + 1) capq) w7 := by
            have hx67 := hx7
            have hx7 := Hx6.out.trans hx7
            have hmb := Hst.out.seen.lt
            have hq := Hst.out.que.lt gq (by simp [Value.ownBlock])
            have hsz5 := Hx5.out.size
            have hsz6 := Hx6.out.size
            have hne : ∀ b : Nat, wr.heap.size ≤ b → b ≠ w1.heap.size + 1 ∧ some b ≠ (Value.slice (some ⟨gq, off, none⟩) (o.length + 1) capq).ownBlock := fun b hb => ⟨by omega, by simp [Value.ownBlock]; omega⟩
            refine ⟨Hst.out.later hx7, hx67.heap Hb6.out, (Hvw.out.ext hx7).mono (fun _ _ _ => rfl) (fun b hb _ => ⟨hb.1, by simp [Value.ownBlock]; exact hb.2⟩), ?_, ?_, ?_⟩
            · have h := hva
              exact h.mono (fun _ _ _ => rfl) (fun b hb _ => hne b (by unfold New at hb; omega))
            · have h := Hvb.out.ext hx67
              exact h.mono (fun _ _ _ => rfl) (fun b hb _ => hne b (by unfold New at hb; omega))
            · have := Hst.out.ext.size
              have h0 := Boxed.lt' Hst.out.gbox
              exact ⟨this, by omega, by omega, by simp [Value.ownBlock]; omega⟩
          have Hst7 := Lib.hid hst7
          clear hst7 hva hx7 Hvb Hb6 Hx6 Hb5 Hx5 c0 c1 c2 cb lc lb Hbx0 Hxa Hvw Hst
          go_wp2_with fail
          obtain ⟨wo, rfl⟩ : ∃ wo : World, wo = wr := ⟨_, rfl⟩
          have hrl : (refsN g p).length ≤ 65 := Hrl.out p hi1
          have hkl : (kidsN (refsN g) (p, q)).length = (refsN g p).length := by unfold kidsN; rw [List.length_zip]; have h := Hlen.out; show min (refsN g p).length (refsN g q).length = (refsN g p).length; rw [← h]; exact Nat.min_self _
          have Hkl := Lib.hid hkl
          clear hkl
          go_loopw [14, 71] (fun v u wr2 => ∃ k : Nat, k ≤ (refsN g p).length ∧ u = .int .i64 k ∧ Hid (BSt w w1.heap.size (w1.heap.size + 1) wo.heap.size A cap g.length (refsN g) ((p, q), way) (.slice Aw way.length cw) (.slice Aa (refsN g p).length caa) (.slice Ab (refsN g q).length cbb) (pushN way 0 ((kidsN (refsN g) (p, q)).take k) s o).1 (pushN way 0 ((kidsN (refsN g) (p, q)).take k) s o).2 v wr2)) (fun _ u _ => (refsN g p).length - (intOf u).toNat)
          case atStart => exact ⟨0, by omega, rfl, Hst7⟩
          case round =>
            clear Hst7
            obtain ⟨k, hk, rfl, Hb⟩ := hrel
            by_cases hlt : k < (refsN g p).length
            · have hk2 : k < (kidsN (refsN g) (p, q)).length := by rw [Hkl.out]; exact hlt
              have hlq : k < (refsN g q).length := by have := Hlen.out; omega
              have hpk : (kidsN (refsN g) (p, q))[k] = ((refsN g p).getD k 0, (refsN g q).getD k 0) := by
                simp [kidsN, List.getD_eq_getElem?_getD, List.getElem?_eq_getElem hlt, List.getElem?_eq_getElem hlq]
              have hstep := pushN_snoc way (kidsN (refsN g) (p, q))[k] ((kidsN (refsN g) (p, q)).take k) 0 s o
              rw [take_one _ k hk2, List.length_take, Nat.min_eq_left (by omega), Nat.zero_add, hpk] at hstep
              obtain ⟨Aa', ca', ea, hsa⟩ := Sl.nat Hb.out.la.any
              obtain ⟨Ab', cb', eb, hsb⟩ := Sl.nat Hb.out.lb.any
              obtain ⟨ba, oa, rfl, ca⟩ := hsa k hlt
              obtain ⟨bb, ob, rfl, cb⟩ := hsb k hlq
              simp only [Value.slice.injEq] at ea eb
              obtain ⟨rfl, _, rfl⟩ := ea
              obtain ⟨rfl, _, rfl⟩ := eb
              have la := cell_lt ca
              have lb := cell_lt cb
              generalize hso : pushN way 0 ((kidsN (refsN g) (p, q)).take k) s o = so at Hb hstep ⊢
              obtain ⟨sk, ok⟩ := so
              have Hso := Lib.hid hso
              clear hso
              simp only [] at Hb hstep
              generalize (refsN g p).getD k 0 = ra at *
              generalize (refsN g q).getD k 0 = rb at *
              have hk0 : (0 : Int) ≤ (k : Int) := by omega
              have hk1 : (k : Int) < ((refsN g p).length : Int) := by omega
              have hk3 : (k : Int) < ((refsN g q).length : Int) := by omega
              clear hsa hsb hpk
              by_cases hin : (ra, rb) ∈ sk
              · rw [if_pos hin] at hstep
                have Hstep := Lib.hid hstep
                have Hin := Lib.hid hin
                clear hstep hin
                go_wp2_with (at_lookup; refine wpList_lookup_F pairK (by rfl) _ _ 80 4 (by rfl) Tryz.underlying80 (.bool false) zeroBool _ (seenF sk) (castP (ra, rb)) (by rfl) (by rfl) (Hb.out.st.seen.ext ((Ext.refl _).alloc _)) ?_; rw [seenF_getD, decide_eq_true Hin.out])
                go_roundw
                case rel => exact ⟨k + 1, by omega, by go_num, by rw [Hstep.out]; exact Lib.hid (Hb.out.later ((Ext.refl _).alloc _))⟩
                case measure => simp [intOf]; omega
              · rw [if_neg hin] at hstep
                have Hstep := Lib.hid hstep
                have Hin := Lib.hid hin
                clear hstep hin
                have hwd : wr.heap.size < (wr.alloc (.cells #[.int .i64 (ra : Int), .int .i64 (rb : Int)] 61)).heap.size := by simp
                go_wp2_with (first | (at_lookup; refine wpList_lookup_F pairK (by rfl) _ _ 80 4 (by rfl) Tryz.underlying80 (.bool false) zeroBool _ (seenF sk) (castP (ra, rb)) (by rfl) (by rfl) (Hb.out.st.seen.ext ((Ext.refl _).alloc _)) ?_; rw [seenF_getD, decide_eq_false Hin.out]) | (at_mapUpdate; refine wpList_update_F pairK (by rfl) _ _ _ 80 4 (by rfl) Tryz.underlying80 _ (seenF sk) (castP (ra, rb)) (by rfl) (by rfl) (Hb.out.st.seen.ext ((Ext.refl _).alloc _)) ?_; intro w8 hm8 hg8))
                have hbp : w8.heap[wr.heap.size]? = some (.cells #[.int .i64 (ra : Int), .int .i64 (rb : Int)] 61 (0, 0)) := (hg8.block _ hwd (fun e => by have h := Hb.out.st.seen.lt; injection e with e; omega)).trans (heap_alloc_self wr _)
                have Hb8 := Lib.hid ((Hb.out.later ((Ext.refl wr).alloc (.cells #[.int .i64 (ra : Int), .int .i64 (rb : Int)] 61))).mark hm8 hg8)
                have Hbp := Lib.hid hbp
                have hS : ∀ w', Ext w8 w' → w'.cell? ⟨wo.heap.size, 2, none⟩ = some (.slice Aw way.length cw) ∧ w'.cell? ⟨wr.heap.size, 0, none⟩ = some (.int .i64 (ra : Int)) ∧ w'.cell? ⟨wr.heap.size, 1, none⟩ = some (.int .i64 (rb : Int)) := fun w' hx =>
                  ⟨heap_cell (hx.heap Hb8.out.box) 2 _ rfl, heap_cell (hx.heap Hbp.out) 0 _ rfl, heap_cell (hx.heap Hbp.out) 1 _ rfl⟩
                have HS := Lib.hid hS
                have Hvl := Lib.hid Hb.out.st.que.lt
                have hlw : w8.heap.size = w8.heap.size := rfl
                clear hbp hm8 hg8 hS hlw
                obtain ⟨rows, hrl, hque, hrr⟩ := Hb8.out.st.que
                obtain ⟨i3, hi3, hz3, hs3, hb3⟩ := info_parts infoI
                obtain ⟨i82, z82, hi82, hz82, hs82, hb82, hc82⟩ := slice83.info
                have hokl : ok.length ≤ 160065 := by
                  have h1 := pushN_len way ((kidsN (refsN g) (p, q)).take k) 0 s o
                  rw [Hso.out] at h1
                  rw [List.length_take] at h1
                  simp only [] at h1
                  omega
                have hbase : w.heap.size ≤ w8.heap.size := Hb8.out.st.ext.size
                have hcwl : way.length ≤ cw := by have := Hb8.out.way.any.cap_le; simpa using this
                have Hque := Lib.hid hque
                have Hrr := Lib.hid hrr
                have Hrl := Lib.hid hrl
                have Hi3 := Lib.hid hi3
                have Hz3 := Lib.hid hz3
                have Hs3 := Lib.hid hs3
                have Hb3 := Lib.hid hb3
                have Hi82 := Lib.hid hi82
                have Hz82 := Lib.hid hz82
                have Hs82 := Lib.hid hs82
                have Hb82 := Lib.hid hb82
                have Hc82 := Lib.hid hc82
                clear hque hrr hrl hi3 hz3 hs3 hb3 hi82 hz82 hs82 hb82 hc82
                go_frame
                go_region_held3 (fun w' => w'.cell? ⟨wo.heap.size, 2, none⟩ = some (.slice Aw way.length cw) ∧ w'.cell? ⟨wr.heap.size, 0, none⟩ = some (.int .i64 (ra : Int)) ∧ w'.cell? ⟨wr.heap.size, 1, none⟩ = some (.int .i64 (rb : Int)))
                  (first | exact HS.out _ (Ext.refl _).drew | exact HS.out _ ((Ext.refl _).drew.alloc _) | exact HS.out _ hx9 | exact HS.out _ (hx9.alloc _) | exact hS5)
                  (first
                    | (refine step_append_grows (by rfl) _ _ 24 (by rfl) 3 i3 (.int .i64 0) 1 8 Tryz.underlying24 Hi3.out Hz3.out Hs3.out Hb3.out rfl (by decide) Aw way.length way.length ((way.map fun (n : Nat) => (n : Int)).map (Value.int .i64)) (by rfl) (sl_cells (Hb8.out.way.any) (by simp)).1 (by simp) (sl_cells (((Hb8.out.way.ext ((Ext.refl w8).drew.alloc (.cells #[.int .i64 (k : Int)] 3)))).any) (by simp)).2 ⟨w8.heap.size, 0, none⟩ 1 1 [.int .i64 (k : Int)] (by rfl) (by rfl) (cell_one_new w8.drew _ _) (by simp [Value.oneCell']) (by omega) (by simp only [maxLen]; omega) (by omega) ?_; intro v1 w9 hown9 hg9; obtain ⟨g9, c9, rfl⟩ := ownsRow_succ hown9; have hx9 : Ext w8 w9 := Below.grown ((Ext.refl w8).drew.alloc (.cells #[.int .i64 (k : Int)] 3)) hg9 (by simp) (by intro k hk; cases hk))
                    | (refine step_append_que (by rfl) _ _ 83 (by rfl) w.heap.size 3 82 i82 z82 40 Tryz.underlying83 Hi82.out Hz82.out Hs82.out Hb82.out Hc82.out (by decide) _ _ rows.flatten (by rfl) (Hque.out.ext (hx9.alloc _)) (by have := hx9.size; simp; omega) ⟨w9.heap.size, 0, none⟩ 1 [.int .i64 (ra : Int), .int .i64 (rb : Int), .slice (some ⟨g9, 0, none⟩) (way.length + 1) c9] (by rfl) (by rfl) (World.news_of_block (cs := #[.int .i64 (ra : Int), .int .i64 (rb : Int), .slice (some ⟨g9, 0, none⟩) (way.length + 1) c9]) (t := 82) (fr := (0, 0)) (heap_alloc_new w9 _)) (by simp [Value.oneCell']) (by simp only [maxLen, List.length_cons]; omega) (by simp only [List.length_cons]; omega) ?_; intro v5 w10 hq10 hg10 hat10; have hS5 : w10.cell? ⟨wo.heap.size, 2, none⟩ = some (.slice Aw way.length cw) ∧ w10.cell? ⟨wr.heap.size, 0, none⟩ = some (.int .i64 (ra : Int)) ∧ w10.cell? ⟨wr.heap.size, 1, none⟩ = some (.int .i64 (rb : Int)) := ⟨hg10.cell (HS.out _ (hx9.alloc _)).1 (fun e => Hb8.out.nbx.2.2.2 e.symm), hg10.cell (HS.out _ (hx9.alloc _)).2.1 (fun e => absurd (Hvl.out _ e.symm).2 (Nat.lt_irrefl _)), hg10.cell (HS.out _ (hx9.alloc _)).2.2 (fun e => absurd (Hvl.out _ e.symm).2 (Nat.lt_irrefl _))⟩))
                all_goals
                  have hv1 : SlF (New w8) intE w9 (.slice (some ⟨g9, 0, none⟩) (way.length + 1) c9) ((way ++ [k]).map fun (n : Nat) => (n : Int)) := by
                    have h := ownsRow_sl (w := w8.drew.alloc (.cells #[.int .i64 (k : Int)] 3)) (xs := (way ++ [k]).map fun (n : Nat) => (n : Int)) (by simpa using hown9)
                    exact h.mono (fun _ _ _ => rfl) (fun b hb _ => by unfold New at hb ⊢; simp at hb; omega)
                  have hb10 := Hb8.out.push (p := (ra, rb)) (k := k) (e := 82) (hx9.alloc _) Hrl.out Hrr.out (hv1.ext ((Ext.refl w9).alloc _)) hq10 hg10 hat10
                  have Hb10 := Lib.hid hb10
                  clear hb10 hv1 hS5 hq10 hg10 hat10 hown9 hg9 hx9
                  go_wp2_with fail
                  go_roundw
                  case rel => exact ⟨k + 1, by omega, by go_num, by rw [Hstep.out]; exact Hb10⟩
                  case measure => simp [intOf]; omega
            · have hke : (kidsN (refsN g) (p, q)).take k = kidsN (refsN g) (p, q) := List.take_of_length_le (by rw [Hkl.out]; omega)
              rw [hke] at Hb
              clear hke
              have hL3 := HL2.out
              have hgk : 0 < gk ∧ leftN g.length (pushN way 0 (kidsN (refsN g) (p, q)) s o).1 (pushN way 0 (kidsN (refsN g) (p, q)) s o).2 ≤ gk - 1 := by
                have hl := Hleft.out
                have hL4 : leftN g.length (pushN way 0 (kidsN (refsN g) (p, q)) s o).1 (pushN way 0 (kidsN (refsN g) (p, q)) s o).2 < leftN g.length s (((p, q), way) :: o) := hL3
                omega
              have Hgk := Lib.hid hgk
              have hgk0 := hgk.1
              have HI3 : Hid (Inv g.length (agN g) (refsN g) i j (dn ++ [((p, q), way)]) (pushN way 0 (kidsN (refsN g) (p, q)) s o).1 (pushN way 0 (kidsN (refsN g) (p, q)) s o).2) := HI2
              have HW3 : Hid (WInv (dn ++ [((p, q), way)]) (pushN way 0 (kidsN (refsN g) (p, q)) s o).1 (pushN way 0 (kidsN (refsN g) (p, q)) s o).2) := HW2
              clear hL3 HL2 hgk HI2 HW2 Hleft
              generalize (pushN way 0 (kidsN (refsN g) (p, q)) s o).1 = s2 at *
              generalize (pushN way 0 (kidsN (refsN g) (p, q)) s o).2 = o2 at *
              obtain ⟨g2, off2, cap2, r2, rfl, hc2, hm2, hrel2, hcell2⟩ := Hb.out.st.que.head
              clear hrel2 hcell2
              have hkk : decide ((k : Int) < ((refsN g p).length : Int)) = false := by simp; omega
              have hmax : cap2 ≤ 9223372036854775807 := by unfold maxLen at hm2; omega
              by_cases hc1 : cap2 = 1
              · have ho2 : o2 = [] := List.eq_nil_of_length_eq_zero (by omega)
                subst ho2
                subst hc1
                have hst : ASt w w1.heap.size (w1.heap.size + 1) A cap g.length s2 [] (.slice (some ⟨g2, off2, none⟩) 0 0) wr := ⟨Hb.out.st.ext, Hb.out.st.gbox, Hb.out.st.que.pop_last, Hb.out.st.seen, Hb.out.st.nb⟩
                have Hst2 := Lib.hid hst
                clear hst Hb
                go_wp2_with fail
                go_roundg (gk - 1)
                case measure => omega
                case rel => exact ⟨s2, _, _, rfl, rfl, Hst2, HI3, HS2, Hgk.out.2, HW3⟩
              · have hc1' : 1 < cap2 := by omega
                have hst : ASt w w1.heap.size (w1.heap.size + 1) A cap g.length s2 o2 (.slice (some ⟨g2, off2 + 3, none⟩) o2.length (cap2 - 1)) wr := ⟨Hb.out.st.ext, Hb.out.st.gbox, Hb.out.st.que.pop hc1', Hb.out.st.seen, Hb.out.st.nb⟩
                have Hst2 := Lib.hid hst
                clear hst Hb
                go_wp2_with fail
                go_roundg (gk - 1)
                case measure => omega
                case rel => exact ⟨s2, _, _, rfl, rfl, Hst2, HI3, HS2, Hgk.out.2, HW3⟩
  · rw [if_neg h0]
    have hne : (errG g [a, b] != 0) = true := by simpa using h0
    generalize errG g [a, b] = er at hop hne ⊢
    have Hop := Lib.hid hop
    clear hop hag hls hg hT h0 hG
    go_enter Tryz.func15, Tryz.ntmps15
    go_wp2_with fail
    go_step3
    go_wp2_with fail
    refine Hop.out.mono ?_
    rintro e w1 ⟨rfl, hx1⟩
    go_wp2_with fail
    go_ret3
    exact ⟨_, rfl, Sl.nil _ _, (((Ext.refl w).alloc _).trans hx1).alloc _⟩
end Go.Proofs.YtldnjnnhfeobdaaGreatDoor
/- Contracts: types in new memory with other references: what is called for parts and methods; slices.Clone. Conditions: lengths below 2^20. -/
namespace Go.Proofs.YtldnjnnhfeobdaaGreatDoor
set_option linter.all false
set_option linter.unusedSimpArgs false
set_option linter.unusedVariables false
open Go.RowKit Go.Shelf

/-- a function value that turns references -/
structure ToP (w : World) (g : Nat) (cb : Array Value) (f : Int → Int) (ok : Int → Prop) : Prop where
  ent : Enters Tryz.prog g
  run : ∀ i, ok i → ∀ w', Ext w w' → Calls Tryz.prog g (#[.int .i64 i] ++ cb) w' (Ret w' (.int .i64 (f i)))
theorem ToP.later {w w1 : World} {g : Nat} {cb : Array Value} {f : Int → Int} {ok : Int → Prop} (h : ToP w g cb f ok) (hx : Ext w w1) : ToP w1 g cb f ok :=
  ⟨h.ent, fun i hi w' hw => h.run i hi w' (hx.trans hw)⟩
theorem ToP.map {w : World} {g : Nat} {cb : Array Value} {f : Int → Int} {ok : Int → Prop} (h : ToP w g cb f ok) (xs : List Int) (hx : ∀ x ∈ xs, ok x) : MapP intE intE w g cb xs f :=
  ⟨h.ent, by
    rintro x hm w' A hxt ⟨_, rfl, rfl⟩
    exact res_int (h.run x (hx x hm) w' hxt)⟩
def turnP (f : Int → Int) (p : Part) : Part := ⟨p.name, f p.type⟩
def turnM (f : Int → Int) (m : Method) : Method := ⟨m.name, m.args.map f, if 0 ≤ m.result then f m.result else m.result, m.raises, m.proc⟩
def turnT (f : Int → Int) (t : Ty) : Ty := { t with super := if hasSuperB t.kind then f t.super else t.super, parts := t.parts.map (turnP f), methods := t.methods.map (turnM f) }

set_option maxRecDepth 100000 in
set_option maxHeartbeats 4000000 in
theorem moved1_any (w : World) (bf g : Nat) (cb : Array Value) (f : Int → Int) (ok : Int → Prop) (p : Part) (hc : w.cell? ⟨bf, 0, none⟩ = some (.func (.func g) #[] cb)) (hT : ToP w g cb f ok) (hok : ok p.type) :
    Calls Tryz.prog 124 #[.agg #[.string p.name, .int .i64 p.type], .pointer (some ⟨bf, 0, none⟩)] w (RetP w (Res partE w (turnP f p))) := by
  have hlt := cell_lt hc
  have eg : ∀ args w, (callFunc g args).run Tryz.prog w = .ok (.enter g args) w := hT.ent
  have hr := fun w' hx => hT.run p.type hok w' hx
  have Hr := Lib.hid hr
  obtain ⟨W, hW⟩ : ∃ W, (w.alloc (.cells #[.string p.name, .int .i64 p.type] 95)).alloc (.cells #[.string ⟨#[]⟩, .int .i64 0] 95) = W := ⟨_, rfl⟩
  have hxW : Ext w W := hW ▸ (((Ext.refl w).alloc _).alloc _)
  have b0 : W.heap[w.heap.size]? = some (.cells #[.string p.name, .int .i64 p.type] 95 (0, 0)) := by
    rw [← hW]; exact (Below.heap_alloc _ _ _ (by simp)).trans (heap_alloc_self w _)
  have b1 : W.heap[w.heap.size + 1]? = some (.cells #[.string ⟨#[]⟩, .int .i64 0] 95 (0, 0)) := by
    have h := heap_alloc_self (w.alloc (.cells #[.string p.name, .int .i64 p.type] 95)) (.cells #[.string ⟨#[]⟩, .int .i64 0] 95)
    rw [World.size_alloc, hW] at h; exact h
  have hS : ∀ w', Ext W w' → (w'.cell? ⟨bf, 0, none⟩ = some (.func (.func g) #[] cb) ∧ w'.cell? ⟨w.heap.size, 0, none⟩ = some (.string p.name) ∧ w'.cell? ⟨w.heap.size, 1, none⟩ = some (.int .i64 p.type)) := fun w' h => ⟨h.cell (hxW.cell hc), heap_cell (h.heap b0) 0 _ rfl, heap_cell (h.heap b0) 1 _ rfl⟩
  have hSt : ∀ (w' : World) (v u : Value), (w'.cell? ⟨bf, 0, none⟩ = some (.func (.func g) #[] cb) ∧ w'.cell? ⟨w.heap.size, 0, none⟩ = some (.string p.name) ∧ w'.cell? ⟨w.heap.size, 1, none⟩ = some (.int .i64 p.type)) → (fun w' => (w'.cell? ⟨bf, 0, none⟩ = some (.func (.func g) #[] cb) ∧ w'.cell? ⟨w.heap.size, 0, none⟩ = some (.string p.name) ∧ w'.cell? ⟨w.heap.size, 1, none⟩ = some (.int .i64 p.type))) ((w'.setCell ⟨w.heap.size + 1, 0, none⟩ v).setCell ⟨w.heap.size + 1, 1, none⟩ u) := fun w' v u h => by
    have e : ∀ (w' : World) k i v, k ≠ w.heap.size + 1 → (w'.setCell ⟨w.heap.size + 1, i, none⟩ v).heap[k]? = w'.heap[k]? := fun w' k i v hk => Below.heap_setCell _ _ _ _ hk
    have e2 : ∀ k o x, k ≠ w.heap.size + 1 → w'.cell? ⟨k, o, none⟩ = some x → ((w'.setCell ⟨w.heap.size + 1, 0, none⟩ v).setCell ⟨w.heap.size + 1, 1, none⟩ u).cell? ⟨k, o, none⟩ = some x := fun k o x hk hx =>
      (World.cell?_of_block (w := w') (a := ⟨k, o, none⟩) ((e _ _ _ _ hk).trans (e _ _ _ _ hk))).trans hx
    exact ⟨e2 _ _ _ (by omega) h.1, e2 _ _ _ (by omega) h.2.1, e2 _ _ _ (by omega) h.2.2⟩
  have HS := Lib.hid hS
  have HSt := Lib.hid hSt
  have HxW := Lib.hid hxW
  have B1 := Lib.hid b1
  have hWs : w.heap.size + 2 = W.heap.size := by rw [← hW]; simp
  have Hr2 := Lib.hid (fun w' hx => Hr.out w' (hxW.trans hx))
  clear hT hr hS hSt hc hxW b0 b1
  go_enter Tryz.func124, Tryz.ntmps124
  go_wp2_with fail
  try rw [hW]
  clear hW
  go_region_held3 (fun w' => (w'.cell? ⟨bf, 0, none⟩ = some (.func (.func g) #[] cb) ∧ w'.cell? ⟨w.heap.size, 0, none⟩ = some (.string p.name) ∧ w'.cell? ⟨w.heap.size, 1, none⟩ = some (.int .i64 p.type))) (first | exact HS.out _ (Ext.refl _).drew | exact HS.out _ hx2 | exact HSt.out _ _ _ (HS.out _ hx2)) ((refine (Hr2.out _ (Ext.refl W).drew).mono ?_; rintro e w2 ⟨rfl, hx0⟩; have hx2 := (Ext.refl W).drew.trans hx0; have k0 := heap_cell (hx2.heap B1.out) 0 _ rfl; have k1 := heap_cell (hx2.heap B1.out) 1 _ rfl; have f0 := heap_frozen (hx2.heap B1.out) 0; have f1 := heap_frozen (hx2.heap B1.out) 1; have l1 := cell_lt k0))
  all_goals
    have hb := heap_set (heap_set (hx2.heap B1.out) 0 (.string p.name)) 1 (.int .i64 (f p.type))
    have HB := Lib.hid hb
    have Hx2 := Lib.hid hx2
    clear hx2 hx0 k0 k1 f0 f1 hb
    go_wp2_with fail
    have d0 := heap_cell HB.out 0 _ rfl
    have d1 := heap_cell HB.out 1 _ rfl
    exact bodyPost_ret (v := .agg #[.string p.name, .int .i64 (f p.type)]) (by simp [results, Tryz.results124, go_sem, d0, d1]) rfl ⟨_, rfl, ⟨_, rfl, rfl⟩, ((HxW.out.trans Hx2.out).setCell (by simp) _).setCell (by simp) _⟩
end Go.Proofs.YtldnjnnhfeobdaaGreatDoor
/- Contracts: slices.Clone of words and of rules; the append of a whole slice. Conditions: lengths below 2^20. -/
namespace Go.Proofs.YtldnjnnhfeobdaaGreatDoor
set_option linter.all false
set_option linter.unusedSimpArgs false
set_option linter.unusedVariables false
open Go.RowKit Go.Shelf

theorem list_choose {β : Type} [Inhabited β] : ∀ (n : Nat) (P : Nat → β → Prop), (∀ i, i < n → ∃ y, P i y) → ∃ l : List β, l.length = n ∧ ∀ i y, l[i]? = some y → P i y
  | 0, P, _ => ⟨[], rfl, fun i y h => by simp at h⟩
  | n + 1, P, h => by
    obtain ⟨l, hl, hP⟩ := list_choose n P (fun i hi => h i (by omega))
    obtain ⟨y, hy⟩ := h n (by omega)
    refine ⟨l ++ [y], by simp [hl], fun i z hz => ?_⟩
    by_cases hi : i < l.length
    · rw [List.getElem?_append_left hi] at hz; exact hP i z hz
    · rw [List.getElem?_append_right (by omega)] at hz
      have h0 : i - l.length = 0 := by have := (List.getElem?_eq_some_iff.1 hz).1; simp at this; omega
      rw [h0] at hz
      simp at hz
      subst hz
      have : i = n := by omega
      subst this; exact hy

theorem flatten_len {k : Nat} (rows : List (List Value)) (h : ∀ r ∈ rows, r.length = k) : rows.flatten.length = rows.length * k := by
  induction rows with
  | nil => simp
  | cons r rows ih =>
    rw [List.flatten_cons, List.length_append, ih (fun r hr => h r (by simp [hr])), h r (by simp), List.length_cons, Nat.add_mul]; omega

theorem flatten_inv {k : Nat} (hk0 : 0 < k) (rows : List (List Value)) (hk : ∀ r ∈ rows, r.length = k) (j : Nat) (u : Value) (h : rows.flatten[j]? = some u) :
    ∃ r, rows[j / k]? = some r ∧ r[j % k]? = some u := by
  have hj : j < rows.length * k := by
    have := (List.getElem?_eq_some_iff.1 h).1
    rwa [flatten_len rows hk] at this
  have hi : j / k < rows.length := Nat.div_lt_of_lt_mul (by rw [Nat.mul_comm]; exact hj)
  have hr : rows[j / k]? = some (rows[j / k]'hi) := List.getElem?_eq_getElem hi
  have hl : (rows[j / k]'hi).length = k := hk _ (List.getElem_mem _)
  have hm : j % k < (rows[j / k]'hi).length := by rw [hl]; exact Nat.mod_lt _ hk0
  have hu := flatten_get rows hk _ _ _ _ hr (List.getElem?_eq_getElem hm)
  rw [Nat.div_add_mod'] at hu
  rw [hu] at h
  injection h with h
  exact ⟨_, hr, by rw [List.getElem?_eq_getElem hm, h]⟩

/-- an element whose relation asks for nothing behind its cells -/
def FlatE {α : Type} (E : Elt α) : Prop := ∀ F G w w' x cs, E.rel F w x cs → E.rel G w' x cs
theorem flat_str : FlatE strE := fun _ _ _ _ _ _ h => h
theorem flat_int : FlatE intE := fun _ _ _ _ _ _ h => h
theorem flat_over : FlatE overE := fun _ _ _ _ _ _ h => h
theorem flat_part : FlatE partE := fun _ _ _ _ _ _ h => h

theorem Own.made {α : Type} (F : Nat → Prop) (E : Elt α) (w : World) (base : Nat) (e : TypeId) (hb : base ≤ w.heap.size) : Own F E (w.alloc (.cells #[] e)) base e (.slice (some ⟨w.heap.size, 0, none⟩) 0 0) [] :=
  ⟨[], rfl, by simpa using World.ownsRow_made (base := base) (e := e) (size := E.k) w #[] 0 hb (Nat.zero_le _) (by simp), fun i x r h => by simp at h⟩

section
variable {P : Program} {ops : Array Oper} {rest : List Oper} {o : Oper} {a : Act} {Q : Exit → Act → World → Prop}
theorem own_append_all {α : Type} {F : Nat → Prop} (E : Elt α) (hflat : FlatE E) {W : World} (base : Nat) (hgd : o.guard = none) (s x : Operand) (t e : TypeId) (bytes : Nat)
    (ho : o.op = .call { callee := .builtin .append, args := #[s, x], argTypes := #[t, t] }) (hI : SliceOf P t e E.k bytes)
    (v : Value) (xs ys : List α) (ad : Addr) (n c : Nat) (hs : a.eval s = v) (hx : a.eval x = .slice (some ad) n c)
    (HO : Own F E W base e v xs) (hy : Sl E W (.slice (some ad) n c) ys) (hbase : base ≤ W.heap.size) (hl : (xs.length + ys.length) * bytes ≤ 140737488355328) (hb0 : 0 < bytes)
    (h : ∀ v1 w1, Own F E w1 base e v1 (xs ++ ys) → W.grownBy w1 v.ownBlock → wpList P ops Q rest (a.put o.dst v1) w1) :
    wpList P ops Q (o :: rest) a W := by
  obtain ⟨i, z, hi, hz, hsz, hby, hzs⟩ := hI.info
  obtain ⟨rows, hrl, hown, hr⟩ := HO
  obtain ⟨A, c', hA, hy⟩ := hy
  injection hA with hA hn hc
  subst hA hn hc
  obtain ⟨rows2, hl2, hr2⟩ := list_choose (β := List Value) ys.length (fun i r => ∃ y, ys[i]? = some y ∧ E.rel Any W y r ∧ ∀ j u, r[j]? = some u → W.cell? (ad.add (i * E.k + j)) = some u) (fun i hi => by
    obtain ⟨b, off, cs, hA, _, hrel, hcell⟩ := hy i ys[i] (List.getElem?_eq_getElem hi)
    injection hA with hA
    subst hA
    exact ⟨cs, ys[i], List.getElem?_eq_getElem hi, hrel, fun j u hj => by rw [Addr.add_lit, ← Nat.add_assoc]; exact hcell j u hj⟩)
  have hk : ∀ r ∈ rows2, r.length = E.k := by
    intro r hm
    obtain ⟨i, hi, rfl⟩ := List.mem_iff_getElem.1 hm
    obtain ⟨y, _, hrel, _⟩ := hr2 i _ (List.getElem?_eq_getElem hi)
    exact E.len _ _ _ _ hrel
  have hlen : xs.length + ys.length ≤ 140737488355328 := Nat.le_trans (Nat.le_mul_of_pos_right _ hb0) hl
  refine wpList_append_own_at W hgd s x t ho base e i z E.k bytes hI.under hi hz hsz hby hzs E.pos v xs.length rows.flatten hs hown ad ys.length _ rows2.flatten hx (by rw [flatten_len _ hk, hl2])
    (fun j u hj => ?_) (fun u hu => ?_) (by simp only [maxLen]; omega) hl hbase ?_
  · obtain ⟨r, h1, h2⟩ := flatten_inv E.pos rows2 hk j u hj
    obtain ⟨y, _, _, hcell⟩ := hr2 _ _ h1
    have := hcell _ _ h2
    rwa [Nat.div_add_mod'] at this
  · obtain ⟨r, hm, hu⟩ := List.mem_flatten.1 hu
    obtain ⟨i, hi, rfl⟩ := List.mem_iff_getElem.1 hm
    obtain ⟨y, _, hrel, _⟩ := hr2 i _ (List.getElem?_eq_getElem hi)
    exact E.one _ _ _ _ hrel u hu
  · intro v1 w1 hown1 hg _ hat
    refine h v1 w1 ⟨rows ++ rows2, by simp [hrl, hl2], by simpa using hown1, ?_⟩ hg
    intro k x1 r h1 h2
    by_cases hk' : k < xs.length
    · rw [List.getElem?_append_left hk'] at h1
      rw [List.getElem?_append_left (by omega)] at h2
      exact hflat _ _ _ _ _ _ (hr k x1 r h1 h2)
    · rw [List.getElem?_append_right (by omega)] at h1
      rw [List.getElem?_append_right (by omega), hrl] at h2
      obtain ⟨y, e1, hrel, _⟩ := hr2 _ _ h2
      rw [e1] at h1
      injection h1 with h1
      subst h1
      exact hflat _ _ _ _ _ _ hrel
end

set_option maxHeartbeats 2000000 in
set_option maxRecDepth 100000 in
theorem clone_str (w : World) (v : Value) (xs : List ByteArray) (hv : Sl strE w v xs) (hn : xs.length ≤ 1048576) :
    Calls Tryz.prog 127 #[v] w (RetP w (fun w' u => SlF (New w) strE w' u xs)) := by
  obtain ⟨A, cap, rfl, hs⟩ := id hv
  have q : ∀ (w : World) (a : Option Addr) (n c n' c' : Nat), (binOp .eql 70 (.slice a n c) (.slice none n' c')).run Tryz.prog w = .ok (.bool a.isNone) w := fun w a n c n' c' => Lib.run_eql_slice_nil w _ _ a n c n' c' Tryz.underlying70
  cases A with
  | none =>
    have h0 : xs = [] := by
      cases xs with
      | nil => rfl
      | cons x l => obtain ⟨_, _, _, hA, _⟩ := hs 0 x rfl; simp at hA
    subst h0
    go_enter Tryz.func127, Tryz.ntmps127
    go_wp2_with fail
    go_ret
    exact ⟨_, rfl, SlF.nil _ _ _, Ext.refl _⟩
  | some ad =>
    have Hv := Lib.hid hv
    clear hv hs
    go_enter Tryz.func127, Tryz.ntmps127
    go_wp2_with (at_builtin; refine own_append_all (F := New w) strE flat_str w.heap.size rfl _ _ 70 9 16 rfl slice70 _ [] xs ad _ _ rfl rfl (Own.made _ _ w _ _ (Nat.le_refl _)) (Hv.out.mono ((Ext.refl w).alloc _)) (by simp) (by simp; omega) (by decide) ?_)
    intro v1 w1 hown hg
    go_wp2_with fail
    go_ret
    have hown : Own (New w) strE w1 w.heap.size 9 v1 xs := by simpa using hown
    refine ⟨_, rfl, hown.sl (fun b hb => hb), ?_⟩
    exact ((Below.refl _ w).alloc (Nat.le_refl _) _).grown hg (by simp) (by intro k hk; simp [Value.ownBlock] at hk; omega)

set_option maxHeartbeats 2000000 in
set_option maxRecDepth 100000 in
theorem clone_over (w : World) (v : Value) (xs : List Over) (hv : Sl overE w v xs) (hn : xs.length ≤ 1048576) :
    Calls Tryz.prog 128 #[v] w (RetP w (fun w' u => SlF (New w) overE w' u xs)) := by
  obtain ⟨A, cap, rfl, hs⟩ := id hv
  have q : ∀ (w : World) (a : Option Addr) (n c n' c' : Nat), (binOp .eql 40 (.slice a n c) (.slice none n' c')).run Tryz.prog w = .ok (.bool a.isNone) w := fun w a n c n' c' => Lib.run_eql_slice_nil w _ _ a n c n' c' Tryz.underlying40
  cases A with
  | none =>
    have h0 : xs = [] := by
      cases xs with
      | nil => rfl
      | cons x l => obtain ⟨_, _, _, hA, _⟩ := hs 0 x rfl; simp at hA
    subst h0
    go_enter Tryz.func128, Tryz.ntmps128
    go_wp2_with fail
    go_ret
    exact ⟨_, rfl, SlF.nil _ _ _, Ext.refl _⟩
  | some ad =>
    have Hv := Lib.hid hv
    clear hv hs
    go_enter Tryz.func128, Tryz.ntmps128
    go_wp2_with (at_builtin; refine own_append_all (F := New w) overE flat_over w.heap.size rfl _ _ 40 117 32 rfl slice40 _ [] xs ad _ _ rfl rfl (Own.made _ _ w _ _ (Nat.le_refl _)) (Hv.out.mono ((Ext.refl w).alloc _)) (by simp) (by simp; omega) (by decide) ?_)
    intro v1 w1 hown hg
    go_wp2_with fail
    go_ret
    have hown : Own (New w) overE w1 w.heap.size 117 v1 xs := by simpa using hown
    refine ⟨_, rfl, hown.sl (fun b hb => hb), ?_⟩
    exact ((Below.refl _ w).alloc (Nat.le_refl _) _).grown hg (by simp) (by intro k hk; simp [Value.ownBlock] at hk; omega)
end Go.Proofs.YtldnjnnhfeobdaaGreatDoor
/- Contracts: a method in new memory with other references. Conditions: lengths below 2^20. -/
namespace Go.Proofs.YtldnjnnhfeobdaaGreatDoor
set_option linter.all false
set_option linter.unusedSimpArgs false
set_option linter.unusedVariables false
open Go.RowKit Go.Shelf

/-- behind the first statement: both boxes -/
def MvMid (w : World) (m : Method) (f : Int → Int) (wx : World) : Prop := ∃ A1 c1 A2 c2,
  wx.heap[w.heap.size]? = some (.cells #[.string m.name, .slice A1 m.args.length c1, .int .i64 m.result, .slice A2 m.raises.length c2, .string m.proc] 74 (0, 0)) ∧
  wx.heap[w.heap.size + 1]? = some (.cells #[.string ⟨#[]⟩, .slice none 0 0, .int .i64 0, .slice none 0 0, .string ⟨#[]⟩] 74 (0, 0)) ∧ Ext w wx ∧
  SlF (fun b => w.heap.size + 2 ≤ b) intE wx (.slice A1 m.args.length c1) (m.args.map f) ∧ SlF (fun b => w.heap.size + 2 ≤ b) strE wx (.slice A2 m.raises.length c2) m.raises
theorem MvMid.of {w w2 : World} {m : Method} {f : Int → Int} {A1 A2 : Option Addr} {c1 c2 : Nat} {o : Value} {o2 : Value} (hx : Ext w w2) (h0 : w2.heap[w.heap.size]? = some (.cells #[.string m.name, o, .int .i64 m.result, o2, .string m.proc] 74 (0, 0)))
    (h1 : w2.heap[w.heap.size + 1]? = some (.cells #[.string ⟨#[]⟩, .slice none 0 0, .int .i64 0, .slice none 0 0, .string ⟨#[]⟩] 74 (0, 0))) (ha : SlF (fun b => w.heap.size + 2 ≤ b) intE w2 (.slice A1 m.args.length c1) (m.args.map f)) (hr : SlF (fun b => w.heap.size + 2 ≤ b) strE w2 (.slice A2 m.raises.length c2) m.raises) :
    MvMid w m f ((w2.setCell ⟨w.heap.size, 1, none⟩ (.slice A1 m.args.length c1)).setCell ⟨w.heap.size, 3, none⟩ (.slice A2 m.raises.length c2)) := by
  have hk : ∀ b, b ≠ w.heap.size → ((w2.setCell ⟨w.heap.size, 1, none⟩ (.slice A1 m.args.length c1)).setCell ⟨w.heap.size, 3, none⟩ (.slice A2 m.raises.length c2)).heap[b]? = w2.heap[b]? := fun b hb =>
    (Below.heap_setCell _ _ _ _ (fun e => hb e)).trans (Below.heap_setCell _ _ _ _ (fun e => hb e))
  refine ⟨A1, c1, A2, c2, ?_, (hk _ (by omega)).trans h1, (hx.setCell (Nat.le_refl _) _).setCell (Nat.le_refl _) _, ha.mono (fun b hb _ => hk b (by omega)) (fun b hb _ => hb), hr.mono (fun b hb _ => hk b (by omega)) (fun b hb _ => hb)⟩
  exact heap_set (heap_set h0 1 _) 3 _
set_option maxRecDepth 100000 in
set_option maxHeartbeats 16000000 in
theorem moved2_any (w : World) (bf g : Nat) (cb : Array Value) (f : Int → Int) (ok : Int → Prop) (m : Method) (va vr : Value) (hc : w.cell? ⟨bf, 0, none⟩ = some (.func (.func g) #[] cb)) (hT : ToP w g cb f ok)
    (ha : Sl intE w va m.args) (hr : Sl strE w vr m.raises) (han : m.args.length ≤ 1048576) (hrn : m.raises.length ≤ 1048576) (hok : ∀ a ∈ m.args, ok a) (hres : 0 ≤ m.result → ok m.result) :
    Calls Tryz.prog 126 #[.agg #[.string m.name, va, .int .i64 m.result, vr, .string m.proc], .pointer (some ⟨bf, 0, none⟩)] w (RetP w (Res methodE w (turnM f m))) := by
  have hlt := cell_lt hc
  have eg : ∀ args w, (callFunc g args).run Tryz.prog w = .ok (.enter g args) w := hT.ent
  have htu := fun (w' : World) (h : Ext w w') => turned_int_int g cb w' va m.args f (ha.mono h) han ((hT.later h).map m.args hok)
  have hcl := fun (w' : World) (h : Ext w w') => clone_str w' vr m.raises (hr.mono h) hrn
  have hrun := fun (w' : World) (h : Ext w w') (h0 : 0 ≤ m.result) => hT.run m.result (hres h0) w' h
  obtain ⟨Aa, ca, rfl⟩ := ha.len
  obtain ⟨Ar, cr, rfl⟩ := hr.len
  have Htu := Lib.hid htu
  have Hc0 := Lib.hid hc
  have Hcl := Lib.hid hcl
  have Hrun := Lib.hid hrun
  clear htu hcl hrun hT ha hr hok hres
  obtain ⟨W, hW⟩ : ∃ W, (w.alloc (.cells #[.string m.name, .slice Aa m.args.length ca, .int .i64 m.result, .slice Ar m.raises.length cr, .string m.proc] 74)).alloc (.cells #[.string ⟨#[]⟩, .slice none 0 0, .int .i64 0, .slice none 0 0, .string ⟨#[]⟩] 74) = W := ⟨_, rfl⟩
  have hxW : Ext w W := hW ▸ (((Ext.refl w).alloc _).alloc _)
  have b0 : W.heap[w.heap.size]? = some (.cells #[.string m.name, .slice Aa m.args.length ca, .int .i64 m.result, .slice Ar m.raises.length cr, .string m.proc] 74 (0, 0)) := by
    rw [← hW]; exact (Below.heap_alloc _ _ _ (by simp)).trans (heap_alloc_self w _)
  have b1 : W.heap[w.heap.size + 1]? = some (.cells #[.string ⟨#[]⟩, .slice none 0 0, .int .i64 0, .slice none 0 0, .string ⟨#[]⟩] 74 (0, 0)) := by
    have h := heap_alloc_self (w.alloc (.cells #[.string m.name, .slice Aa m.args.length ca, .int .i64 m.result, .slice Ar m.raises.length cr, .string m.proc] 74)) (.cells #[.string ⟨#[]⟩, .slice none 0 0, .int .i64 0, .slice none 0 0, .string ⟨#[]⟩] 74)
    rw [World.size_alloc, hW] at h; exact h
  have hcW := hxW.cell hc
  have k1 := heap_cell b0 1 _ rfl
  have k3 := heap_cell b0 3 _ rfl
  have hS : ∀ w', Ext W w' → w'.cell? ⟨bf, 0, none⟩ = some (.func (.func g) #[] cb) := fun w' h => h.cell (hxW.cell hc)
  have hSt : ∀ (w' : World) (i : Nat) (v : Value), w'.cell? ⟨bf, 0, none⟩ = some (.func (.func g) #[] cb) → (w'.setCell ⟨w.heap.size, i, none⟩ v).cell? ⟨bf, 0, none⟩ = some (.func (.func g) #[] cb) := fun w' i v h =>
    (World.cell?_of_block (w := w') (a := ⟨bf, 0, none⟩) (Below.heap_setCell _ _ _ _ (by simp; omega))).trans h
  have HS := Lib.hid hS
  have HSt := Lib.hid hSt
  have HxW := Lib.hid hxW
  have B0 := Lib.hid b0
  have B1 := Lib.hid b1
  have hWs : w.heap.size + 2 = W.heap.size := by rw [← hW]; simp
  clear hS hSt hc hxW b0 b1
  go_enter Tryz.func126, Tryz.ntmps126
  go_upto_region 1 with fail
  try rw [hW]
  clear hW
  go_cut [8] (fun s8 wx => Hid (MvMid w m f wx))
  case first =>
    refine wp_region_anyX (by kernel_rfl) ?_
    refine any_val (i := 0) (v := ?_) (some 4) #[true, false, false, false, false, false, false, false, false, false, false, false, false, false, false] rfl rfl rfl (by kernel_rfl) (by kernel_rfl) (by kernel_rfl) (fun _ _ _ h => h) (Or.inl ⟨by rfl, ?_⟩) ?_
    rotate_left
    · intro w
      go_simp
      (first | done | exact rfl)
    simp only [Act.put, List.setIfInBounds_toArray, List.set_cons_zero, List.set_cons_succ]
    refine any_val (i := 1) (v := ?_) (some 5) #[true, true, false, false, false, false, false, false, false, false, false, false, false, false, false] rfl rfl rfl (by kernel_rfl) (by kernel_rfl) (by kernel_rfl) (fun _ _ _ h => h) (Or.inl ⟨by rfl, ?_⟩) ?_
    rotate_left
    · intro w
      go_simp
      (first | done | exact rfl)
    simp only [Act.put, List.setIfInBounds_toArray, List.set_cons_zero, List.set_cons_succ]
    refine any_val (i := 5) (v := ?_) (some 9) #[true, true, false, false, false, true, false, false, false, false, false, false, false, false, false] rfl rfl rfl (by kernel_rfl) (by kernel_rfl) (by kernel_rfl) (fun _ _ _ h => h) (Or.inl ⟨by rfl, ?_⟩) ?_
    rotate_left
    · intro w
      go_simp
      (first | done | exact rfl)
    simp only [Act.put, List.setIfInBounds_toArray, List.set_cons_zero, List.set_cons_succ]
    refine any_val (i := 6) (v := ?_) (some 10) #[true, true, false, false, false, true, true, false, false, false, false, false, false, false, false] rfl rfl rfl (by kernel_rfl) (by kernel_rfl) (by kernel_rfl) (fun _ _ _ h => h) (Or.inl ⟨by rfl, ?_⟩) ?_
    rotate_left
    · intro w
      go_simp
      (first | done | exact rfl)
    simp only [Act.put, List.setIfInBounds_toArray, List.set_cons_zero, List.set_cons_succ]
    refine wpAny_ready (rs := [2, 3, 7]) (by kernel_rfl) (by simp) (AllReady.cons rfl (fun K hK => ?_) (AllReady.cons rfl (fun K hK => ?_) (AllReady.cons rfl (fun K hK => ?_) AllReady.nil)))
    · go_simp
      refine hK _ _ ?_
      clear hK K
      refine wpAny_ready (rs := [3, 7]) (by kernel_rfl) (by simp) (AllReady.cons rfl (fun K hK => ?_) (AllReady.cons rfl (fun K hK => ?_) AllReady.nil))
      · go_simp
        refine hK _ _ ?_
        clear hK K
        refine wpAny_ready (rs := [4, 7]) (by kernel_rfl) (by simp) (AllReady.cons rfl (fun K hK => ?_) (AllReady.cons rfl (fun K hK => ?_) AllReady.nil))
        · go_simp
          refine (Htu.out _ (HxW.out.trans (Ext.refl W).drew)).mono ?_
          rintro e w1 ⟨v1, rfl, hv1, hx1⟩
          obtain ⟨A1, c1, rfl⟩ := hv1.any.len
          rw [List.length_map] at hv1 ⊢
          have hx2 := (Ext.refl W).drew.trans hx1
          have Hv1 := Lib.hid (hv1.mono (G := fun b => w.heap.size + 2 ≤ b) (fun _ _ _ => rfl) (fun b hb _ => (by have h5 := (Ext.refl W).drew.size; unfold New at hb; simp at hb h5; omega)))
          have k3' := heap_cell (hx2.heap B0.out) 3 _ rfl
          have Hx2 := Lib.hid hx2
          clear hx1 hv1 hx2
          refine hK _ _ ?_
          clear hK K
          refine wpAny_ready (rs := [7]) (by kernel_rfl) (by simp) (AllReady.cons rfl (fun K hK => ?_) AllReady.nil)
          go_simp
          refine hK _ _ ?_
          clear hK K
          refine any_val (i := 9) (v := ?_) (some 13) #[true, true, true, true, true, true, true, true, false, true, false, false, false, false, false] rfl rfl rfl (by kernel_rfl) (by kernel_rfl) (by kernel_rfl) (fun _ _ _ h => h) (Or.inl ⟨by rfl, ?_⟩) ?_
          rotate_left
          · intro w
            go_simp
            (first | done | exact rfl)
          simp only [Act.put, List.setIfInBounds_toArray, List.set_cons_zero, List.set_cons_succ]
          refine any_val (i := 10) (v := ?_) (some 14) #[true, true, true, true, true, true, true, true, false, true, true, false, false, false, false] rfl rfl rfl (by kernel_rfl) (by kernel_rfl) (by kernel_rfl) (fun _ _ _ h => h) (Or.inl ⟨by rfl, ?_⟩) ?_
          rotate_left
          · intro w
            go_simp
            (first | done | exact rfl)
          simp only [Act.put, List.setIfInBounds_toArray, List.set_cons_zero, List.set_cons_succ]
          refine wpAny_ready (rs := [8]) (by kernel_rfl) (by simp) (AllReady.cons rfl (fun K hK => ?_) AllReady.nil)
          go_simp
          refine (Hcl.out _ (HxW.out.trans Hx2.out)).mono ?_
          rintro e w2 ⟨v2, rfl, hv2, hx0⟩
          obtain ⟨A2, c2, rfl⟩ := hv2.any.len
          have hx3 := Hx2.out.trans hx0
          replace Hv1 := Lib.hid (Hv1.out.ext hx0)
          have Hv2 := Lib.hid (hv2.mono (G := fun b => w.heap.size + 2 ≤ b) (fun _ _ _ => rfl) (fun b hb _ => (by have h6 := Hx2.out.size; unfold New at hb; omega)))
          have b3 := hx3.heap B0.out
          have j1 := heap_cell b3 1 _ rfl
          have j3 := heap_cell b3 3 _ rfl
          have f1 := heap_frozen b3 1
          have f3 := heap_frozen b3 3
          have l1 := cell_lt j1
          have Hx3 := Lib.hid hx3
          have Hb3 := Lib.hid b3
          clear hx0 hv2 hx3 b3 k3'
          refine hK _ _ ?_
          clear hK K
          refine wpAny_ready (rs := [11]) (by kernel_rfl) (by simp) (AllReady.cons rfl (fun K hK => ?_) AllReady.nil)
          go_simp
          refine hK _ _ ?_
          clear hK K
          refine any_val (i := 12) (v := ?_) (some 15) #[true, true, true, true, true, true, true, true, true, true, true, true, true, false, false] rfl rfl rfl (by kernel_rfl) (by kernel_rfl) (by kernel_rfl) (fun _ _ _ h => h) (Or.inl ⟨by rfl, ?_⟩) ?_
          rotate_left
          · intro w
            go_simp
            (first | done | exact rfl)
          simp only [Act.put, List.setIfInBounds_toArray, List.set_cons_zero, List.set_cons_succ]
          refine any_val (i := 13) (v := ?_) (some 16) #[true, true, true, true, true, true, true, true, true, true, true, true, true, true, false] rfl rfl rfl (by kernel_rfl) (by kernel_rfl) (by kernel_rfl) (fun _ _ _ h => h) (Or.inl ⟨by rfl, ?_⟩) ?_
          rotate_left
          · intro w
            go_simp
            (first | done | exact rfl)
          simp only [Act.put, List.setIfInBounds_toArray, List.set_cons_zero, List.set_cons_succ]
          refine wpAny_ready (rs := [14]) (by kernel_rfl) (by simp) (AllReady.cons rfl (fun K hK => ?_) AllReady.nil)
          go_simp
          refine hK _ _ ?_
          clear hK K
          refine wpAny_done (by kernel_rfl) ?_ _
          clear j1 j3 f1 f3 l1
          go_wp2_with fail
          go_meet
          exact Lib.hid (MvMid.of (HxW.out.trans Hx3.out) Hb3.out (Hx3.out.heap B1.out) Hv1.out Hv2.out)
        · go_simp
          refine hK _ _ ?_
          clear hK K
          refine wpAny_ready (rs := [4]) (by kernel_rfl) (by simp) (AllReady.cons rfl (fun K hK => ?_) AllReady.nil)
          go_simp
          refine (Htu.out _ (HxW.out.trans (Ext.refl W).drew)).mono ?_
          rintro e w1 ⟨v1, rfl, hv1, hx1⟩
          obtain ⟨A1, c1, rfl⟩ := hv1.any.len
          rw [List.length_map] at hv1 ⊢
          have hx2 := (Ext.refl W).drew.trans hx1
          have Hv1 := Lib.hid (hv1.mono (G := fun b => w.heap.size + 2 ≤ b) (fun _ _ _ => rfl) (fun b hb _ => (by have h5 := (Ext.refl W).drew.size; unfold New at hb; simp at hb h5; omega)))
          have k3' := heap_cell (hx2.heap B0.out) 3 _ rfl
          have Hx2 := Lib.hid hx2
          clear hx1 hv1 hx2
          refine hK _ _ ?_
          clear hK K
          refine any_val (i := 9) (v := ?_) (some 13) #[true, true, true, true, true, true, true, true, false, true, false, false, false, false, false] rfl rfl rfl (by kernel_rfl) (by kernel_rfl) (by kernel_rfl) (fun _ _ _ h => h) (Or.inl ⟨by rfl, ?_⟩) ?_
          rotate_left
          · intro w
            go_simp
            (first | done | exact rfl)
          simp only [Act.put, List.setIfInBounds_toArray, List.set_cons_zero, List.set_cons_succ]
          refine any_val (i := 10) (v := ?_) (some 14) #[true, true, true, true, true, true, true, true, false, true, true, false, false, false, false] rfl rfl rfl (by kernel_rfl) (by kernel_rfl) (by kernel_rfl) (fun _ _ _ h => h) (Or.inl ⟨by rfl, ?_⟩) ?_
          rotate_left
          · intro w
            go_simp
            (first | done | exact rfl)
          simp only [Act.put, List.setIfInBounds_toArray, List.set_cons_zero, List.set_cons_succ]
          refine wpAny_ready (rs := [8]) (by kernel_rfl) (by simp) (AllReady.cons rfl (fun K hK => ?_) AllReady.nil)
          go_simp
          refine (Hcl.out _ (HxW.out.trans Hx2.out)).mono ?_
          rintro e w2 ⟨v2, rfl, hv2, hx0⟩
          obtain ⟨A2, c2, rfl⟩ := hv2.any.len
          have hx3 := Hx2.out.trans hx0
          replace Hv1 := Lib.hid (Hv1.out.ext hx0)
          have Hv2 := Lib.hid (hv2.mono (G := fun b => w.heap.size + 2 ≤ b) (fun _ _ _ => rfl) (fun b hb _ => (by have h6 := Hx2.out.size; unfold New at hb; omega)))
          have b3 := hx3.heap B0.out
          have j1 := heap_cell b3 1 _ rfl
          have j3 := heap_cell b3 3 _ rfl
          have f1 := heap_frozen b3 1
          have f3 := heap_frozen b3 3
          have l1 := cell_lt j1
          have Hx3 := Lib.hid hx3
          have Hb3 := Lib.hid b3
          clear hx0 hv2 hx3 b3 k3'
          refine hK _ _ ?_
          clear hK K
          refine wpAny_ready (rs := [11]) (by kernel_rfl) (by simp) (AllReady.cons rfl (fun K hK => ?_) AllReady.nil)
          go_simp
          refine hK _ _ ?_
          clear hK K
          refine any_val (i := 12) (v := ?_) (some 15) #[true, true, true, true, true, true, true, true, true, true, true, true, true, false, false] rfl rfl rfl (by kernel_rfl) (by kernel_rfl) (by kernel_rfl) (fun _ _ _ h => h) (Or.inl ⟨by rfl, ?_⟩) ?_
          rotate_left
          · intro w
            go_simp
            (first | done | exact rfl)
          simp only [Act.put, List.setIfInBounds_toArray, List.set_cons_zero, List.set_cons_succ]
          refine any_val (i := 13) (v := ?_) (some 16) #[true, true, true, true, true, true, true, true, true, true, true, true, true, true, false] rfl rfl rfl (by kernel_rfl) (by kernel_rfl) (by kernel_rfl) (fun _ _ _ h => h) (Or.inl ⟨by rfl, ?_⟩) ?_
          rotate_left
          · intro w
            go_simp
            (first | done | exact rfl)
          simp only [Act.put, List.setIfInBounds_toArray, List.set_cons_zero, List.set_cons_succ]
          refine wpAny_ready (rs := [14]) (by kernel_rfl) (by simp) (AllReady.cons rfl (fun K hK => ?_) AllReady.nil)
          go_simp
          refine hK _ _ ?_
          clear hK K
          refine wpAny_done (by kernel_rfl) ?_ _
          clear j1 j3 f1 f3 l1
          go_wp2_with fail
          go_meet
          exact Lib.hid (MvMid.of (HxW.out.trans Hx3.out) Hb3.out (Hx3.out.heap B1.out) Hv1.out Hv2.out)
      · go_simp
        refine hK _ _ ?_
        clear hK K
        refine wpAny_ready (rs := [3]) (by kernel_rfl) (by simp) (AllReady.cons rfl (fun K hK => ?_) AllReady.nil)
        go_simp
        refine hK _ _ ?_
        clear hK K
        refine wpAny_ready (rs := [4]) (by kernel_rfl) (by simp) (AllReady.cons rfl (fun K hK => ?_) AllReady.nil)
        go_simp
        refine (Htu.out _ (HxW.out.trans (Ext.refl W).drew)).mono ?_
        rintro e w1 ⟨v1, rfl, hv1, hx1⟩
        obtain ⟨A1, c1, rfl⟩ := hv1.any.len
        rw [List.length_map] at hv1 ⊢
        have hx2 := (Ext.refl W).drew.trans hx1
        have Hv1 := Lib.hid (hv1.mono (G := fun b => w.heap.size + 2 ≤ b) (fun _ _ _ => rfl) (fun b hb _ => (by have h5 := (Ext.refl W).drew.size; unfold New at hb; simp at hb h5; omega)))
        have k3' := heap_cell (hx2.heap B0.out) 3 _ rfl
        have Hx2 := Lib.hid hx2
        clear hx1 hv1 hx2
        refine hK _ _ ?_
        clear hK K
        refine any_val (i := 9) (v := ?_) (some 13) #[true, true, true, true, true, true, true, true, false, true, false, false, false, false, false] rfl rfl rfl (by kernel_rfl) (by kernel_rfl) (by kernel_rfl) (fun _ _ _ h => h) (Or.inl ⟨by rfl, ?_⟩) ?_
        rotate_left
        · intro w
          go_simp
          (first | done | exact rfl)
        simp only [Act.put, List.setIfInBounds_toArray, List.set_cons_zero, List.set_cons_succ]
        refine any_val (i := 10) (v := ?_) (some 14) #[true, true, true, true, true, true, true, true, false, true, true, false, false, false, false] rfl rfl rfl (by kernel_rfl) (by kernel_rfl) (by kernel_rfl) (fun _ _ _ h => h) (Or.inl ⟨by rfl, ?_⟩) ?_
        rotate_left
        · intro w
          go_simp
          (first | done | exact rfl)
        simp only [Act.put, List.setIfInBounds_toArray, List.set_cons_zero, List.set_cons_succ]
        refine wpAny_ready (rs := [8]) (by kernel_rfl) (by simp) (AllReady.cons rfl (fun K hK => ?_) AllReady.nil)
        go_simp
        refine (Hcl.out _ (HxW.out.trans Hx2.out)).mono ?_
        rintro e w2 ⟨v2, rfl, hv2, hx0⟩
        obtain ⟨A2, c2, rfl⟩ := hv2.any.len
        have hx3 := Hx2.out.trans hx0
        replace Hv1 := Lib.hid (Hv1.out.ext hx0)
        have Hv2 := Lib.hid (hv2.mono (G := fun b => w.heap.size + 2 ≤ b) (fun _ _ _ => rfl) (fun b hb _ => (by have h6 := Hx2.out.size; unfold New at hb; omega)))
        have b3 := hx3.heap B0.out
        have j1 := heap_cell b3 1 _ rfl
        have j3 := heap_cell b3 3 _ rfl
        have f1 := heap_frozen b3 1
        have f3 := heap_frozen b3 3
        have l1 := cell_lt j1
        have Hx3 := Lib.hid hx3
        have Hb3 := Lib.hid b3
        clear hx0 hv2 hx3 b3 k3'
        refine hK _ _ ?_
        clear hK K
        refine wpAny_ready (rs := [11]) (by kernel_rfl) (by simp) (AllReady.cons rfl (fun K hK => ?_) AllReady.nil)
        go_simp
        refine hK _ _ ?_
        clear hK K
        refine any_val (i := 12) (v := ?_) (some 15) #[true, true, true, true, true, true, true, true, true, true, true, true, true, false, false] rfl rfl rfl (by kernel_rfl) (by kernel_rfl) (by kernel_rfl) (fun _ _ _ h => h) (Or.inl ⟨by rfl, ?_⟩) ?_
        rotate_left
        · intro w
          go_simp
          (first | done | exact rfl)
        simp only [Act.put, List.setIfInBounds_toArray, List.set_cons_zero, List.set_cons_succ]
        refine any_val (i := 13) (v := ?_) (some 16) #[true, true, true, true, true, true, true, true, true, true, true, true, true, true, false] rfl rfl rfl (by kernel_rfl) (by kernel_rfl) (by kernel_rfl) (fun _ _ _ h => h) (Or.inl ⟨by rfl, ?_⟩) ?_
        rotate_left
        · intro w
          go_simp
          (first | done | exact rfl)
        simp only [Act.put, List.setIfInBounds_toArray, List.set_cons_zero, List.set_cons_succ]
        refine wpAny_ready (rs := [14]) (by kernel_rfl) (by simp) (AllReady.cons rfl (fun K hK => ?_) AllReady.nil)
        go_simp
        refine hK _ _ ?_
        clear hK K
        refine wpAny_done (by kernel_rfl) ?_ _
        clear j1 j3 f1 f3 l1
        go_wp2_with fail
        go_meet
        exact Lib.hid (MvMid.of (HxW.out.trans Hx3.out) Hb3.out (Hx3.out.heap B1.out) Hv1.out Hv2.out)
    · go_simp
      refine hK _ _ ?_
      clear hK K
      refine wpAny_ready (rs := [2, 7]) (by kernel_rfl) (by simp) (AllReady.cons rfl (fun K hK => ?_) (AllReady.cons rfl (fun K hK => ?_) AllReady.nil))
      · go_simp
        refine hK _ _ ?_
        clear hK K
        refine wpAny_ready (rs := [4, 7]) (by kernel_rfl) (by simp) (AllReady.cons rfl (fun K hK => ?_) (AllReady.cons rfl (fun K hK => ?_) AllReady.nil))
        · go_simp
          refine (Htu.out _ (HxW.out.trans (Ext.refl W).drew)).mono ?_
          rintro e w1 ⟨v1, rfl, hv1, hx1⟩
          obtain ⟨A1, c1, rfl⟩ := hv1.any.len
          rw [List.length_map] at hv1 ⊢
          have hx2 := (Ext.refl W).drew.trans hx1
          have Hv1 := Lib.hid (hv1.mono (G := fun b => w.heap.size + 2 ≤ b) (fun _ _ _ => rfl) (fun b hb _ => (by have h5 := (Ext.refl W).drew.size; unfold New at hb; simp at hb h5; omega)))
          have k3' := heap_cell (hx2.heap B0.out) 3 _ rfl
          have Hx2 := Lib.hid hx2
          clear hx1 hv1 hx2
          refine hK _ _ ?_
          clear hK K
          refine wpAny_ready (rs := [7]) (by kernel_rfl) (by simp) (AllReady.cons rfl (fun K hK => ?_) AllReady.nil)
          go_simp
          refine hK _ _ ?_
          clear hK K
          refine any_val (i := 9) (v := ?_) (some 13) #[true, true, true, true, true, true, true, true, false, true, false, false, false, false, false] rfl rfl rfl (by kernel_rfl) (by kernel_rfl) (by kernel_rfl) (fun _ _ _ h => h) (Or.inl ⟨by rfl, ?_⟩) ?_
          rotate_left
          · intro w
            go_simp
            (first | done | exact rfl)
          simp only [Act.put, List.setIfInBounds_toArray, List.set_cons_zero, List.set_cons_succ]
          refine any_val (i := 10) (v := ?_) (some 14) #[true, true, true, true, true, true, true, true, false, true, true, false, false, false, false] rfl rfl rfl (by kernel_rfl) (by kernel_rfl) (by kernel_rfl) (fun _ _ _ h => h) (Or.inl ⟨by rfl, ?_⟩) ?_
          rotate_left
          · intro w
            go_simp
            (first | done | exact rfl)
          simp only [Act.put, List.setIfInBounds_toArray, List.set_cons_zero, List.set_cons_succ]
          refine wpAny_ready (rs := [8]) (by kernel_rfl) (by simp) (AllReady.cons rfl (fun K hK => ?_) AllReady.nil)
          go_simp
          refine (Hcl.out _ (HxW.out.trans Hx2.out)).mono ?_
          rintro e w2 ⟨v2, rfl, hv2, hx0⟩
          obtain ⟨A2, c2, rfl⟩ := hv2.any.len
          have hx3 := Hx2.out.trans hx0
          replace Hv1 := Lib.hid (Hv1.out.ext hx0)
          have Hv2 := Lib.hid (hv2.mono (G := fun b => w.heap.size + 2 ≤ b) (fun _ _ _ => rfl) (fun b hb _ => (by have h6 := Hx2.out.size; unfold New at hb; omega)))
          have b3 := hx3.heap B0.out
          have j1 := heap_cell b3 1 _ rfl
          have j3 := heap_cell b3 3 _ rfl
          have f1 := heap_frozen b3 1
          have f3 := heap_frozen b3 3
          have l1 := cell_lt j1
          have Hx3 := Lib.hid hx3
          have Hb3 := Lib.hid b3
          clear hx0 hv2 hx3 b3 k3'
          refine hK _ _ ?_
          clear hK K
          refine wpAny_ready (rs := [11]) (by kernel_rfl) (by simp) (AllReady.cons rfl (fun K hK => ?_) AllReady.nil)
          go_simp
          refine hK _ _ ?_
          clear hK K
          refine any_val (i := 12) (v := ?_) (some 15) #[true, true, true, true, true, true, true, true, true, true, true, true, true, false, false] rfl rfl rfl (by kernel_rfl) (by kernel_rfl) (by kernel_rfl) (fun _ _ _ h => h) (Or.inl ⟨by rfl, ?_⟩) ?_
          rotate_left
          · intro w
            go_simp
            (first | done | exact rfl)
          simp only [Act.put, List.setIfInBounds_toArray, List.set_cons_zero, List.set_cons_succ]
          refine any_val (i := 13) (v := ?_) (some 16) #[true, true, true, true, true, true, true, true, true, true, true, true, true, true, false] rfl rfl rfl (by kernel_rfl) (by kernel_rfl) (by kernel_rfl) (fun _ _ _ h => h) (Or.inl ⟨by rfl, ?_⟩) ?_
          rotate_left
          · intro w
            go_simp
            (first | done | exact rfl)
          simp only [Act.put, List.setIfInBounds_toArray, List.set_cons_zero, List.set_cons_succ]
          refine wpAny_ready (rs := [14]) (by kernel_rfl) (by simp) (AllReady.cons rfl (fun K hK => ?_) AllReady.nil)
          go_simp
          refine hK _ _ ?_
          clear hK K
          refine wpAny_done (by kernel_rfl) ?_ _
          clear j1 j3 f1 f3 l1
          go_wp2_with fail
          go_meet
          exact Lib.hid (MvMid.of (HxW.out.trans Hx3.out) Hb3.out (Hx3.out.heap B1.out) Hv1.out Hv2.out)
        · go_simp
          refine hK _ _ ?_
          clear hK K
          refine wpAny_ready (rs := [4]) (by kernel_rfl) (by simp) (AllReady.cons rfl (fun K hK => ?_) AllReady.nil)
          go_simp
          refine (Htu.out _ (HxW.out.trans (Ext.refl W).drew)).mono ?_
          rintro e w1 ⟨v1, rfl, hv1, hx1⟩
          obtain ⟨A1, c1, rfl⟩ := hv1.any.len
          rw [List.length_map] at hv1 ⊢
          have hx2 := (Ext.refl W).drew.trans hx1
          have Hv1 := Lib.hid (hv1.mono (G := fun b => w.heap.size + 2 ≤ b) (fun _ _ _ => rfl) (fun b hb _ => (by have h5 := (Ext.refl W).drew.size; unfold New at hb; simp at hb h5; omega)))
          have k3' := heap_cell (hx2.heap B0.out) 3 _ rfl
          have Hx2 := Lib.hid hx2
          clear hx1 hv1 hx2
          refine hK _ _ ?_
          clear hK K
          refine any_val (i := 9) (v := ?_) (some 13) #[true, true, true, true, true, true, true, true, false, true, false, false, false, false, false] rfl rfl rfl (by kernel_rfl) (by kernel_rfl) (by kernel_rfl) (fun _ _ _ h => h) (Or.inl ⟨by rfl, ?_⟩) ?_
          rotate_left
          · intro w
            go_simp
            (first | done | exact rfl)
          simp only [Act.put, List.setIfInBounds_toArray, List.set_cons_zero, List.set_cons_succ]
          refine any_val (i := 10) (v := ?_) (some 14) #[true, true, true, true, true, true, true, true, false, true, true, false, false, false, false] rfl rfl rfl (by kernel_rfl) (by kernel_rfl) (by kernel_rfl) (fun _ _ _ h => h) (Or.inl ⟨by rfl, ?_⟩) ?_
          rotate_left
          · intro w
            go_simp
            (first | done | exact rfl)
          simp only [Act.put, List.setIfInBounds_toArray, List.set_cons_zero, List.set_cons_succ]
          refine wpAny_ready (rs := [8]) (by kernel_rfl) (by simp) (AllReady.cons rfl (fun K hK => ?_) AllReady.nil)
          go_simp
          refine (Hcl.out _ (HxW.out.trans Hx2.out)).mono ?_
          rintro e w2 ⟨v2, rfl, hv2, hx0⟩
          obtain ⟨A2, c2, rfl⟩ := hv2.any.len
          have hx3 := Hx2.out.trans hx0
          replace Hv1 := Lib.hid (Hv1.out.ext hx0)
          have Hv2 := Lib.hid (hv2.mono (G := fun b => w.heap.size + 2 ≤ b) (fun _ _ _ => rfl) (fun b hb _ => (by have h6 := Hx2.out.size; unfold New at hb; omega)))
          have b3 := hx3.heap B0.out
          have j1 := heap_cell b3 1 _ rfl
          have j3 := heap_cell b3 3 _ rfl
          have f1 := heap_frozen b3 1
          have f3 := heap_frozen b3 3
          have l1 := cell_lt j1
          have Hx3 := Lib.hid hx3
          have Hb3 := Lib.hid b3
          clear hx0 hv2 hx3 b3 k3'
          refine hK _ _ ?_
          clear hK K
          refine wpAny_ready (rs := [11]) (by kernel_rfl) (by simp) (AllReady.cons rfl (fun K hK => ?_) AllReady.nil)
          go_simp
          refine hK _ _ ?_
          clear hK K
          refine any_val (i := 12) (v := ?_) (some 15) #[true, true, true, true, true, true, true, true, true, true, true, true, true, false, false] rfl rfl rfl (by kernel_rfl) (by kernel_rfl) (by kernel_rfl) (fun _ _ _ h => h) (Or.inl ⟨by rfl, ?_⟩) ?_
          rotate_left
          · intro w
            go_simp
            (first | done | exact rfl)
          simp only [Act.put, List.setIfInBounds_toArray, List.set_cons_zero, List.set_cons_succ]
          refine any_val (i := 13) (v := ?_) (some 16) #[true, true, true, true, true, true, true, true, true, true, true, true, true, true, false] rfl rfl rfl (by kernel_rfl) (by kernel_rfl) (by kernel_rfl) (fun _ _ _ h => h) (Or.inl ⟨by rfl, ?_⟩) ?_
          rotate_left
          · intro w
            go_simp
            (first | done | exact rfl)
          simp only [Act.put, List.setIfInBounds_toArray, List.set_cons_zero, List.set_cons_succ]
          refine wpAny_ready (rs := [14]) (by kernel_rfl) (by simp) (AllReady.cons rfl (fun K hK => ?_) AllReady.nil)
          go_simp
          refine hK _ _ ?_
          clear hK K
          refine wpAny_done (by kernel_rfl) ?_ _
          clear j1 j3 f1 f3 l1
          go_wp2_with fail
          go_meet
          exact Lib.hid (MvMid.of (HxW.out.trans Hx3.out) Hb3.out (Hx3.out.heap B1.out) Hv1.out Hv2.out)
      · go_simp
        refine hK _ _ ?_
        clear hK K
        refine wpAny_ready (rs := [2]) (by kernel_rfl) (by simp) (AllReady.cons rfl (fun K hK => ?_) AllReady.nil)
        go_simp
        refine hK _ _ ?_
        clear hK K
        refine wpAny_ready (rs := [4]) (by kernel_rfl) (by simp) (AllReady.cons rfl (fun K hK => ?_) AllReady.nil)
        go_simp
        refine (Htu.out _ (HxW.out.trans (Ext.refl W).drew)).mono ?_
        rintro e w1 ⟨v1, rfl, hv1, hx1⟩
        obtain ⟨A1, c1, rfl⟩ := hv1.any.len
        rw [List.length_map] at hv1 ⊢
        have hx2 := (Ext.refl W).drew.trans hx1
        have Hv1 := Lib.hid (hv1.mono (G := fun b => w.heap.size + 2 ≤ b) (fun _ _ _ => rfl) (fun b hb _ => (by have h5 := (Ext.refl W).drew.size; unfold New at hb; simp at hb h5; omega)))
        have k3' := heap_cell (hx2.heap B0.out) 3 _ rfl
        have Hx2 := Lib.hid hx2
        clear hx1 hv1 hx2
        refine hK _ _ ?_
        clear hK K
        refine any_val (i := 9) (v := ?_) (some 13) #[true, true, true, true, true, true, true, true, false, true, false, false, false, false, false] rfl rfl rfl (by kernel_rfl) (by kernel_rfl) (by kernel_rfl) (fun _ _ _ h => h) (Or.inl ⟨by rfl, ?_⟩) ?_
        rotate_left
        · intro w
          go_simp
          (first | done | exact rfl)
        simp only [Act.put, List.setIfInBounds_toArray, List.set_cons_zero, List.set_cons_succ]
        refine any_val (i := 10) (v := ?_) (some 14) #[true, true, true, true, true, true, true, true, false, true, true, false, false, false, false] rfl rfl rfl (by kernel_rfl) (by kernel_rfl) (by kernel_rfl) (fun _ _ _ h => h) (Or.inl ⟨by rfl, ?_⟩) ?_
        rotate_left
        · intro w
          go_simp
          (first | done | exact rfl)
        simp only [Act.put, List.setIfInBounds_toArray, List.set_cons_zero, List.set_cons_succ]
        refine wpAny_ready (rs := [8]) (by kernel_rfl) (by simp) (AllReady.cons rfl (fun K hK => ?_) AllReady.nil)
        go_simp
        refine (Hcl.out _ (HxW.out.trans Hx2.out)).mono ?_
        rintro e w2 ⟨v2, rfl, hv2, hx0⟩
        obtain ⟨A2, c2, rfl⟩ := hv2.any.len
        have hx3 := Hx2.out.trans hx0
        replace Hv1 := Lib.hid (Hv1.out.ext hx0)
        have Hv2 := Lib.hid (hv2.mono (G := fun b => w.heap.size + 2 ≤ b) (fun _ _ _ => rfl) (fun b hb _ => (by have h6 := Hx2.out.size; unfold New at hb; omega)))
        have b3 := hx3.heap B0.out
        have j1 := heap_cell b3 1 _ rfl
        have j3 := heap_cell b3 3 _ rfl
        have f1 := heap_frozen b3 1
        have f3 := heap_frozen b3 3
        have l1 := cell_lt j1
        have Hx3 := Lib.hid hx3
        have Hb3 := Lib.hid b3
        clear hx0 hv2 hx3 b3 k3'
        refine hK _ _ ?_
        clear hK K
        refine wpAny_ready (rs := [11]) (by kernel_rfl) (by simp) (AllReady.cons rfl (fun K hK => ?_) AllReady.nil)
        go_simp
        refine hK _ _ ?_
        clear hK K
        refine any_val (i := 12) (v := ?_) (some 15) #[true, true, true, true, true, true, true, true, true, true, true, true, true, false, false] rfl rfl rfl (by kernel_rfl) (by kernel_rfl) (by kernel_rfl) (fun _ _ _ h => h) (Or.inl ⟨by rfl, ?_⟩) ?_
        rotate_left
        · intro w
          go_simp
          (first | done | exact rfl)
        simp only [Act.put, List.setIfInBounds_toArray, List.set_cons_zero, List.set_cons_succ]
        refine any_val (i := 13) (v := ?_) (some 16) #[true, true, true, true, true, true, true, true, true, true, true, true, true, true, false] rfl rfl rfl (by kernel_rfl) (by kernel_rfl) (by kernel_rfl) (fun _ _ _ h => h) (Or.inl ⟨by rfl, ?_⟩) ?_
        rotate_left
        · intro w
          go_simp
          (first | done | exact rfl)
        simp only [Act.put, List.setIfInBounds_toArray, List.set_cons_zero, List.set_cons_succ]
        refine wpAny_ready (rs := [14]) (by kernel_rfl) (by simp) (AllReady.cons rfl (fun K hK => ?_) AllReady.nil)
        go_simp
        refine hK _ _ ?_
        clear hK K
        refine wpAny_done (by kernel_rfl) ?_ _
        clear j1 j3 f1 f3 l1
        go_wp2_with fail
        go_meet
        exact Lib.hid (MvMid.of (HxW.out.trans Hx3.out) Hb3.out (Hx3.out.heap B1.out) Hv1.out Hv2.out)
    · go_simp
      refine hK _ _ ?_
      clear hK K
      refine wpAny_ready (rs := [2, 3]) (by kernel_rfl) (by simp) (AllReady.cons rfl (fun K hK => ?_) (AllReady.cons rfl (fun K hK => ?_) AllReady.nil))
      · go_simp
        refine hK _ _ ?_
        clear hK K
        refine wpAny_ready (rs := [3]) (by kernel_rfl) (by simp) (AllReady.cons rfl (fun K hK => ?_) AllReady.nil)
        go_simp
        refine hK _ _ ?_
        clear hK K
        refine wpAny_ready (rs := [4]) (by kernel_rfl) (by simp) (AllReady.cons rfl (fun K hK => ?_) AllReady.nil)
        go_simp
        refine (Htu.out _ (HxW.out.trans (Ext.refl W).drew)).mono ?_
        rintro e w1 ⟨v1, rfl, hv1, hx1⟩
        obtain ⟨A1, c1, rfl⟩ := hv1.any.len
        rw [List.length_map] at hv1 ⊢
        have hx2 := (Ext.refl W).drew.trans hx1
        have Hv1 := Lib.hid (hv1.mono (G := fun b => w.heap.size + 2 ≤ b) (fun _ _ _ => rfl) (fun b hb _ => (by have h5 := (Ext.refl W).drew.size; unfold New at hb; simp at hb h5; omega)))
        have k3' := heap_cell (hx2.heap B0.out) 3 _ rfl
        have Hx2 := Lib.hid hx2
        clear hx1 hv1 hx2
        refine hK _ _ ?_
        clear hK K
        refine any_val (i := 9) (v := ?_) (some 13) #[true, true, true, true, true, true, true, true, false, true, false, false, false, false, false] rfl rfl rfl (by kernel_rfl) (by kernel_rfl) (by kernel_rfl) (fun _ _ _ h => h) (Or.inl ⟨by rfl, ?_⟩) ?_
        rotate_left
        · intro w
          go_simp
          (first | done | exact rfl)
        simp only [Act.put, List.setIfInBounds_toArray, List.set_cons_zero, List.set_cons_succ]
        refine any_val (i := 10) (v := ?_) (some 14) #[true, true, true, true, true, true, true, true, false, true, true, false, false, false, false] rfl rfl rfl (by kernel_rfl) (by kernel_rfl) (by kernel_rfl) (fun _ _ _ h => h) (Or.inl ⟨by rfl, ?_⟩) ?_
        rotate_left
        · intro w
          go_simp
          (first | done | exact rfl)
        simp only [Act.put, List.setIfInBounds_toArray, List.set_cons_zero, List.set_cons_succ]
        refine wpAny_ready (rs := [8]) (by kernel_rfl) (by simp) (AllReady.cons rfl (fun K hK => ?_) AllReady.nil)
        go_simp
        refine (Hcl.out _ (HxW.out.trans Hx2.out)).mono ?_
        rintro e w2 ⟨v2, rfl, hv2, hx0⟩
        obtain ⟨A2, c2, rfl⟩ := hv2.any.len
        have hx3 := Hx2.out.trans hx0
        replace Hv1 := Lib.hid (Hv1.out.ext hx0)
        have Hv2 := Lib.hid (hv2.mono (G := fun b => w.heap.size + 2 ≤ b) (fun _ _ _ => rfl) (fun b hb _ => (by have h6 := Hx2.out.size; unfold New at hb; omega)))
        have b3 := hx3.heap B0.out
        have j1 := heap_cell b3 1 _ rfl
        have j3 := heap_cell b3 3 _ rfl
        have f1 := heap_frozen b3 1
        have f3 := heap_frozen b3 3
        have l1 := cell_lt j1
        have Hx3 := Lib.hid hx3
        have Hb3 := Lib.hid b3
        clear hx0 hv2 hx3 b3 k3'
        refine hK _ _ ?_
        clear hK K
        refine wpAny_ready (rs := [11]) (by kernel_rfl) (by simp) (AllReady.cons rfl (fun K hK => ?_) AllReady.nil)
        go_simp
        refine hK _ _ ?_
        clear hK K
        refine any_val (i := 12) (v := ?_) (some 15) #[true, true, true, true, true, true, true, true, true, true, true, true, true, false, false] rfl rfl rfl (by kernel_rfl) (by kernel_rfl) (by kernel_rfl) (fun _ _ _ h => h) (Or.inl ⟨by rfl, ?_⟩) ?_
        rotate_left
        · intro w
          go_simp
          (first | done | exact rfl)
        simp only [Act.put, List.setIfInBounds_toArray, List.set_cons_zero, List.set_cons_succ]
        refine any_val (i := 13) (v := ?_) (some 16) #[true, true, true, true, true, true, true, true, true, true, true, true, true, true, false] rfl rfl rfl (by kernel_rfl) (by kernel_rfl) (by kernel_rfl) (fun _ _ _ h => h) (Or.inl ⟨by rfl, ?_⟩) ?_
        rotate_left
        · intro w
          go_simp
          (first | done | exact rfl)
        simp only [Act.put, List.setIfInBounds_toArray, List.set_cons_zero, List.set_cons_succ]
        refine wpAny_ready (rs := [14]) (by kernel_rfl) (by simp) (AllReady.cons rfl (fun K hK => ?_) AllReady.nil)
        go_simp
        refine hK _ _ ?_
        clear hK K
        refine wpAny_done (by kernel_rfl) ?_ _
        clear j1 j3 f1 f3 l1
        go_wp2_with fail
        go_meet
        exact Lib.hid (MvMid.of (HxW.out.trans Hx3.out) Hb3.out (Hx3.out.heap B1.out) Hv1.out Hv2.out)
      · go_simp
        refine hK _ _ ?_
        clear hK K
        refine wpAny_ready (rs := [2]) (by kernel_rfl) (by simp) (AllReady.cons rfl (fun K hK => ?_) AllReady.nil)
        go_simp
        refine hK _ _ ?_
        clear hK K
        refine wpAny_ready (rs := [4]) (by kernel_rfl) (by simp) (AllReady.cons rfl (fun K hK => ?_) AllReady.nil)
        go_simp
        refine (Htu.out _ (HxW.out.trans (Ext.refl W).drew)).mono ?_
        rintro e w1 ⟨v1, rfl, hv1, hx1⟩
        obtain ⟨A1, c1, rfl⟩ := hv1.any.len
        rw [List.length_map] at hv1 ⊢
        have hx2 := (Ext.refl W).drew.trans hx1
        have Hv1 := Lib.hid (hv1.mono (G := fun b => w.heap.size + 2 ≤ b) (fun _ _ _ => rfl) (fun b hb _ => (by have h5 := (Ext.refl W).drew.size; unfold New at hb; simp at hb h5; omega)))
        have k3' := heap_cell (hx2.heap B0.out) 3 _ rfl
        have Hx2 := Lib.hid hx2
        clear hx1 hv1 hx2
        refine hK _ _ ?_
        clear hK K
        refine any_val (i := 9) (v := ?_) (some 13) #[true, true, true, true, true, true, true, true, false, true, false, false, false, false, false] rfl rfl rfl (by kernel_rfl) (by kernel_rfl) (by kernel_rfl) (fun _ _ _ h => h) (Or.inl ⟨by rfl, ?_⟩) ?_
        rotate_left
        · intro w
          go_simp
          (first | done | exact rfl)
        simp only [Act.put, List.setIfInBounds_toArray, List.set_cons_zero, List.set_cons_succ]
        refine any_val (i := 10) (v := ?_) (some 14) #[true, true, true, true, true, true, true, true, false, true, true, false, false, false, false] rfl rfl rfl (by kernel_rfl) (by kernel_rfl) (by kernel_rfl) (fun _ _ _ h => h) (Or.inl ⟨by rfl, ?_⟩) ?_
        rotate_left
        · intro w
          go_simp
          (first | done | exact rfl)
        simp only [Act.put, List.setIfInBounds_toArray, List.set_cons_zero, List.set_cons_succ]
        refine wpAny_ready (rs := [8]) (by kernel_rfl) (by simp) (AllReady.cons rfl (fun K hK => ?_) AllReady.nil)
        go_simp
        refine (Hcl.out _ (HxW.out.trans Hx2.out)).mono ?_
        rintro e w2 ⟨v2, rfl, hv2, hx0⟩
        obtain ⟨A2, c2, rfl⟩ := hv2.any.len
        have hx3 := Hx2.out.trans hx0
        replace Hv1 := Lib.hid (Hv1.out.ext hx0)
        have Hv2 := Lib.hid (hv2.mono (G := fun b => w.heap.size + 2 ≤ b) (fun _ _ _ => rfl) (fun b hb _ => (by have h6 := Hx2.out.size; unfold New at hb; omega)))
        have b3 := hx3.heap B0.out
        have j1 := heap_cell b3 1 _ rfl
        have j3 := heap_cell b3 3 _ rfl
        have f1 := heap_frozen b3 1
        have f3 := heap_frozen b3 3
        have l1 := cell_lt j1
        have Hx3 := Lib.hid hx3
        have Hb3 := Lib.hid b3
        clear hx0 hv2 hx3 b3 k3'
        refine hK _ _ ?_
        clear hK K
        refine wpAny_ready (rs := [11]) (by kernel_rfl) (by simp) (AllReady.cons rfl (fun K hK => ?_) AllReady.nil)
        go_simp
        refine hK _ _ ?_
        clear hK K
        refine any_val (i := 12) (v := ?_) (some 15) #[true, true, true, true, true, true, true, true, true, true, true, true, true, false, false] rfl rfl rfl (by kernel_rfl) (by kernel_rfl) (by kernel_rfl) (fun _ _ _ h => h) (Or.inl ⟨by rfl, ?_⟩) ?_
        rotate_left
        · intro w
          go_simp
          (first | done | exact rfl)
        simp only [Act.put, List.setIfInBounds_toArray, List.set_cons_zero, List.set_cons_succ]
        refine any_val (i := 13) (v := ?_) (some 16) #[true, true, true, true, true, true, true, true, true, true, true, true, true, true, false] rfl rfl rfl (by kernel_rfl) (by kernel_rfl) (by kernel_rfl) (fun _ _ _ h => h) (Or.inl ⟨by rfl, ?_⟩) ?_
        rotate_left
        · intro w
          go_simp
          (first | done | exact rfl)
        simp only [Act.put, List.setIfInBounds_toArray, List.set_cons_zero, List.set_cons_succ]
        refine wpAny_ready (rs := [14]) (by kernel_rfl) (by simp) (AllReady.cons rfl (fun K hK => ?_) AllReady.nil)
        go_simp
        refine hK _ _ ?_
        clear hK K
        refine wpAny_done (by kernel_rfl) ?_ _
        clear j1 j3 f1 f3 l1
        go_wp2_with fail
        go_meet
        exact Lib.hid (MvMid.of (HxW.out.trans Hx3.out) Hb3.out (Hx3.out.heap B1.out) Hv1.out Hv2.out)
  case rest =>
    obtain ⟨A1, c1, A2, c2, q0, q1, hxx, hsa, hsr⟩ := hcut.out
    have Q0 := Lib.hid q0
    have Q1 := Lib.hid q1
    have Hxx := Lib.hid hxx
    have Hsa := Lib.hid hsa
    have Hsr := Lib.hid hsr
    have cbf := hxx.cell Hc0.out
    have lbf := cell_lt cbf
    have k2 := heap_cell q0 2 _ rfl
    have lk2 := cell_lt k2
    clear q0 q1 hxx hsa hsr hcut
    by_cases h0 : 0 ≤ m.result
    · skip
      go_wp2_with fail
      refine (Hrun.out _ Hxx.out h0).mono ?_
      rintro e w6 ⟨rfl, hx6⟩
      have q0 := hx6.heap Q0.out
      have q1 := hx6.heap Q1.out
      have x0 := heap_cell q0 0 _ rfl
      have x1 := heap_cell q0 1 _ rfl
      have x2 := heap_cell q0 2 _ rfl
      have x3 := heap_cell q0 3 _ rfl
      have x4 := heap_cell q0 4 _ rfl
      have y0 := heap_cell q1 0 _ rfl
      have y1 := heap_cell q1 1 _ rfl
      have y2 := heap_cell q1 2 _ rfl
      have y3 := heap_cell q1 3 _ rfl
      have y4 := heap_cell q1 4 _ rfl
      have z0 := heap_frozen q1 0
      have z1 := heap_frozen q1 1
      have z2 := heap_frozen q1 2
      have z3 := heap_frozen q1 3
      have z4 := heap_frozen q1 4
      have z9 := heap_frozen q0 2
      have lx := cell_lt x0
      have ly := cell_lt y0
      have Hx6 := Lib.hid hx6
      have Hq1 := Lib.hid ((Below.heap_setCell w6 ⟨w.heap.size, 2, none⟩ (.int .i64 (f m.result)) (w.heap.size + 1) (by simp)).trans q1)
      clear hx6 q0 q1
      go_wp2_with fail
      have e5 := heap_set (heap_set (heap_set (heap_set (heap_set Hq1.out 0 (.string m.name)) 1 (.slice A1 m.args.length c1)) 2 (.int .i64 (f m.result))) 3 (.slice A2 m.raises.length c2)) 4 (.string m.proc)
      have d0 := heap_cell e5 0 _ rfl
      have d1 := heap_cell e5 1 _ rfl
      have d2 := heap_cell e5 2 _ rfl
      have d3 := heap_cell e5 3 _ rfl
      have d4 := heap_cell e5 4 _ rfl
      have hm : turnM f m = ⟨m.name, m.args.map f, f m.result, m.raises, m.proc⟩ := by unfold turnM; rw [if_pos h0]
      rw [hm]
      exact bodyPost_ret (v := .agg #[.string m.name, .slice A1 m.args.length c1, .int .i64 (f m.result), .slice A2 m.raises.length c2, .string m.proc]) (by simp [results, Tryz.results126, go_sem, d0, d1, d2, d3, d4]) rfl ⟨_, rfl, ⟨_, ⟨_, _, rfl, (Hsa.out.ext Hx6.out).mono (fun b hb _ => (by rw [Below.heap_setCell _ _ _ _ (by simp; omega), Below.heap_setCell _ _ _ _ (by simp; omega), Below.heap_setCell _ _ _ _ (by simp; omega), Below.heap_setCell _ _ _ _ (by simp; omega), Below.heap_setCell _ _ _ _ (by simp; omega), Below.heap_setCell _ _ _ _ (by simp; omega)])) (fun b hb _ => (by unfold New; omega)), (Hsr.out.ext Hx6.out).mono (fun b hb _ => (by rw [Below.heap_setCell _ _ _ _ (by simp; omega), Below.heap_setCell _ _ _ _ (by simp; omega), Below.heap_setCell _ _ _ _ (by simp; omega), Below.heap_setCell _ _ _ _ (by simp; omega), Below.heap_setCell _ _ _ _ (by simp; omega), Below.heap_setCell _ _ _ _ (by simp; omega)])) (fun b hb _ => (by unfold New; omega))⟩, rfl⟩, ((((((Hxx.out.trans Hx6.out).setCell (Nat.le_refl _) _).setCell (by simp) _).setCell (by simp) _).setCell (by simp) _).setCell (by simp) _).setCell (by simp) _⟩
    · skip
      have q0 := Q0.out
      have q1 := Q1.out
      have x0 := heap_cell q0 0 _ rfl
      have x1 := heap_cell q0 1 _ rfl
      have x2 := heap_cell q0 2 _ rfl
      have x3 := heap_cell q0 3 _ rfl
      have x4 := heap_cell q0 4 _ rfl
      have y0 := heap_cell q1 0 _ rfl
      have y1 := heap_cell q1 1 _ rfl
      have y2 := heap_cell q1 2 _ rfl
      have y3 := heap_cell q1 3 _ rfl
      have y4 := heap_cell q1 4 _ rfl
      have z0 := heap_frozen q1 0
      have z1 := heap_frozen q1 1
      have z2 := heap_frozen q1 2
      have z3 := heap_frozen q1 3
      have z4 := heap_frozen q1 4
      have z9 := heap_frozen q0 2
      have lx := cell_lt x0
      have ly := cell_lt y0
      have Hq1 := Lib.hid q1
      clear q0 q1
      go_wp2_with fail
      have e5 := heap_set (heap_set (heap_set (heap_set (heap_set Hq1.out 0 (.string m.name)) 1 (.slice A1 m.args.length c1)) 2 (.int .i64 m.result)) 3 (.slice A2 m.raises.length c2)) 4 (.string m.proc)
      have d0 := heap_cell e5 0 _ rfl
      have d1 := heap_cell e5 1 _ rfl
      have d2 := heap_cell e5 2 _ rfl
      have d3 := heap_cell e5 3 _ rfl
      have d4 := heap_cell e5 4 _ rfl
      have hm : turnM f m = ⟨m.name, m.args.map f, m.result, m.raises, m.proc⟩ := by unfold turnM; rw [if_neg (by omega)]
      rw [hm]
      exact bodyPost_ret (v := .agg #[.string m.name, .slice A1 m.args.length c1, .int .i64 m.result, .slice A2 m.raises.length c2, .string m.proc]) (by simp [results, Tryz.results126, go_sem, d0, d1, d2, d3, d4]) rfl ⟨_, rfl, ⟨_, ⟨_, _, rfl, Hsa.out.mono (fun b hb _ => (by rw [Below.heap_setCell _ _ _ _ (by simp; omega), Below.heap_setCell _ _ _ _ (by simp; omega), Below.heap_setCell _ _ _ _ (by simp; omega), Below.heap_setCell _ _ _ _ (by simp; omega), Below.heap_setCell _ _ _ _ (by simp; omega)])) (fun b hb _ => (by unfold New; omega)), Hsr.out.mono (fun b hb _ => (by rw [Below.heap_setCell _ _ _ _ (by simp; omega), Below.heap_setCell _ _ _ _ (by simp; omega), Below.heap_setCell _ _ _ _ (by simp; omega), Below.heap_setCell _ _ _ _ (by simp; omega), Below.heap_setCell _ _ _ _ (by simp; omega)])) (fun b hb _ => (by unfold New; omega))⟩, rfl⟩, (((((Hxx.out).setCell (by simp) _).setCell (by simp) _).setCell (by simp) _).setCell (by simp) _).setCell (by simp) _⟩
end Go.Proofs.YtldnjnnhfeobdaaGreatDoor
/- Contract: a type in new memory with other references. Conditions: lengths below 2^20. -/
namespace Go.Proofs.YtldnjnnhfeobdaaGreatDoor
set_option linter.all false
set_option linter.unusedSimpArgs false
set_option linter.unusedVariables false
open Go.RowKit Go.Shelf

theorem map124 (w : World) (bf g : Nat) (cb : Array Value) (f : Int → Int) (ok : Int → Prop) (xs : List Part) (hc : w.cell? ⟨bf, 0, none⟩ = some (.func (.func g) #[] cb)) (hT : ToP w g cb f ok) (hx : ∀ p ∈ xs, ok p.type) :
    MapP partE partE w 124 #[.pointer (some ⟨bf, 0, none⟩)] xs (turnP f) :=
  ⟨enters_of Tryz.func124 (by kernel_rfl) rfl, by
    rintro x hxm w' A hxt ⟨_, rfl, rfl⟩
    exact moved1_any w' bf g cb f ok x (hxt.cell hc) (hT.later hxt) (hx x hxm)⟩
theorem map126 (w : World) (bf g : Nat) (cb : Array Value) (f : Int → Int) (ok : Int → Prop) (xs : List Method) (hc : w.cell? ⟨bf, 0, none⟩ = some (.func (.func g) #[] cb)) (hT : ToP w g cb f ok) (hs : ∀ m ∈ xs, MethodSmall m)
    (hx : ∀ m ∈ xs, (∀ a ∈ m.args, ok a) ∧ (0 ≤ m.result → ok m.result)) :
    MapP methodE methodE w 126 #[.pointer (some ⟨bf, 0, none⟩)] xs (turnM f) :=
  ⟨enters_of Tryz.func126 (by kernel_rfl) rfl, by
    rintro x hxm w' A hxt ⟨cs, ⟨va, vr, rfl, ha, hr⟩, rfl⟩
    exact moved2_any w' bf g cb f ok x va vr (hxt.cell hc) (hT.later hxt) ha hr (hs x hxm).2.2.1 (hs x hxm).2.2.2.1 (hx x hxm).1 (hx x hxm).2⟩
/-- while a type is turned: the box of it, that of the function, that of the result -/
structure MSt (w : World) (g : Nat) (cb : Array Value) (t : Ty) (vp vm vo : Value) (wr : World) : Prop where
  ext : Ext w wr
  box : TyBox wr w.heap.size t vp vm vo
  fbox : wr.heap[w.heap.size + 1]? = some (.cells #[.func (.func g) #[] cb] 103 (0, 0))
  zbox : TyBox wr (w.heap.size + 2) ty0 (.slice none 0 0) (.slice none 0 0) (.slice none 0 0)
section
variable {w : World} {g : Nat} {cb : Array Value} {t : Ty} {vp vm vo : Value} {wr wr' : World}
theorem MSt.later (h : MSt w g cb t vp vm vo wr) (hx : Ext wr wr') : MSt w g cb t vp vm vo wr' := ⟨h.ext.trans hx, h.box.ext hx, hx.heap h.fbox, h.zbox.ext hx⟩
theorem MSt.set (h : MSt w g cb t vp vm vo wr) (i : Nat) (v : Value) {t' : Ty} {vp' vm' vo' : Value} (hb : TyBox (wr.setCell ⟨w.heap.size, i, none⟩ v) w.heap.size t' vp' vm' vo') : MSt w g cb t' vp' vm' vo' (wr.setCell ⟨w.heap.size, i, none⟩ v) :=
  ⟨h.ext.setCell (Nat.le_refl _) _, hb, (Below.heap_setCell _ _ _ _ (by simp)).trans h.fbox, by unfold TyBox; rw [Below.heap_setCell _ _ _ _ (by simp)]; exact h.zbox⟩
theorem MSt.set6 (h : MSt w g cb t vp vm vo wr) (n : Int) : MSt w g cb { t with super := n } vp vm vo (wr.setCell ⟨w.heap.size, 6, none⟩ (.int .i64 n)) := h.set 6 _ (heap_set h.box 6 _)
theorem MSt.set7 (h : MSt w g cb t vp vm vo wr) (v : Value) : MSt w g cb t v vm vo (wr.setCell ⟨w.heap.size, 7, none⟩ v) := h.set 7 _ (heap_set h.box 7 _)
theorem MSt.set8 (h : MSt w g cb t vp vm vo wr) (v : Value) : MSt w g cb t vp v vo (wr.setCell ⟨w.heap.size, 8, none⟩ v) := h.set 8 _ (heap_set h.box 8 _)
theorem MSt.set9 (h : MSt w g cb t vp vm vo wr) (v : Value) : MSt w g cb t vp vm v (wr.setCell ⟨w.heap.size, 9, none⟩ v) := h.set 9 _ (heap_set h.box 9 _)
theorem MSt.fcell (h : MSt w g cb t vp vm vo wr) : wr.cell? ⟨w.heap.size + 1, 0, none⟩ = some (.func (.func g) #[] cb) := heap_cell h.fbox 0 _ rfl
end
theorem row10_set {w : World} {b : Nat} {t : TypeId} {fr : Nat × Nat} {a0 a1 a2 a3 a4 a5 a6 a7 a8 a9 : Value} (h : w.heap[b]? = some (.cells #[a0, a1, a2, a3, a4, a5, a6, a7, a8, a9] t fr)) (v0 v1 v2 v3 v4 v5 v6 v7 v8 v9 : Value) :
    ((((((((((w.setCell ⟨b, 0, none⟩ v0).setCell ⟨b, 1, none⟩ v1).setCell ⟨b, 2, none⟩ v2).setCell ⟨b, 3, none⟩ v3).setCell ⟨b, 4, none⟩ v4).setCell ⟨b, 5, none⟩ v5).setCell ⟨b, 6, none⟩ v6).setCell ⟨b, 7, none⟩ v7).setCell ⟨b, 8, none⟩ v8).setCell ⟨b, 9, none⟩ v9).heap[b]? = some (.cells #[v0, v1, v2, v3, v4, v5, v6, v7, v8, v9] t fr) := by
  have h0 := heap_set h 0 v0
  simp only [List.setIfInBounds_toArray, List.set_cons_zero, List.set_cons_succ] at h0
  have h1 := heap_set h0 1 v1
  simp only [List.setIfInBounds_toArray, List.set_cons_zero, List.set_cons_succ] at h1
  have h2 := heap_set h1 2 v2
  simp only [List.setIfInBounds_toArray, List.set_cons_zero, List.set_cons_succ] at h2
  have h3 := heap_set h2 3 v3
  simp only [List.setIfInBounds_toArray, List.set_cons_zero, List.set_cons_succ] at h3
  have h4 := heap_set h3 4 v4
  simp only [List.setIfInBounds_toArray, List.set_cons_zero, List.set_cons_succ] at h4
  have h5 := heap_set h4 5 v5
  simp only [List.setIfInBounds_toArray, List.set_cons_zero, List.set_cons_succ] at h5
  have h6 := heap_set h5 6 v6
  simp only [List.setIfInBounds_toArray, List.set_cons_zero, List.set_cons_succ] at h6
  have h7 := heap_set h6 7 v7
  simp only [List.setIfInBounds_toArray, List.set_cons_zero, List.set_cons_succ] at h7
  have h8 := heap_set h7 8 v8
  simp only [List.setIfInBounds_toArray, List.set_cons_zero, List.set_cons_succ] at h8
  have h9 := heap_set h8 9 v9
  simp only [List.setIfInBounds_toArray, List.set_cons_zero, List.set_cons_succ] at h9
  exact h9
theorem SlF.set {α : Type} {E : Elt α} {n : Nat} {w : World} {v : Value} {xs : List α} (h : SlF (fun b => n ≤ b) E w v xs) {b : Nat} (hb : b < n) (i : Nat) (u : Value) : SlF (fun b => n ≤ b) E (w.setCell ⟨b, i, none⟩ u) v xs :=
  h.mono (fun c hc _ => Below.heap_setCell _ _ _ _ (by simp; omega)) (fun _ h _ => h)

set_option maxRecDepth 100000 in
set_option maxHeartbeats 8000000 in
theorem moved_any (w : World) (g : Nat) (cb : Array Value) (f : Int → Int) (ok : Int → Prop) (t : Ty) (vp vm vo : Value) (hof : TyOf w t vp vm vo) (hs : TySmall t) (hT : ToP w g cb f ok) (hok : ∀ r ∈ refsL t, ok r) :
    Calls Tryz.prog 72 #[tyV t vp vm vo, .func (.func g) #[] cb] w (RetP w (Res tyE w (turnT f t))) := by
  have eg : ∀ args w, (callFunc g args).run Tryz.prog w = .ok (.enter g args) w := hT.ent
  have hkd := fun w' : World => hasSuper_any t.kind w'
  have hsup := fun (w' : World) (h : Ext w w') (h0 : hasSuperB t.kind = true) => hT.run t.super (hok _ (by unfold refsL refsS; rw [h0]; simp)) w' h
  have hpa := fun (w' : World) (h : Ext w w') (hc : w'.cell? ⟨w.heap.size + 1, 0, none⟩ = some (.func (.func g) #[] cb)) => turned_part_part 124 #[.pointer (some ⟨w.heap.size + 1, 0, none⟩)] w' vp t.parts (turnP f) (hof.parts.mono h) hs.parts (map124 w' _ g cb f ok t.parts hc (hT.later h) (fun p hp => hok _ (by unfold refsL; simp only [List.mem_append]; exact .inr (.inl (List.mem_map_of_mem hp)))))
  have hme := fun (w' : World) (h : Ext w w') (hc : w'.cell? ⟨w.heap.size + 1, 0, none⟩ = some (.func (.func g) #[] cb)) => turned_method_method 126 #[.pointer (some ⟨w.heap.size + 1, 0, none⟩)] w' vm t.methods (turnM f) (hof.methods.mono h) hs.methods (map126 w' _ g cb f ok t.methods hc (hT.later h) hs.method (fun m hm => ⟨fun a ha => hok _ (by unfold refsL; simp only [List.mem_append]; exact .inr (.inr (List.mem_flatMap.2 ⟨m, hm, by unfold refsM; simp [ha]⟩))), fun h0 => hok _ (by unfold refsL; simp only [List.mem_append]; exact .inr (.inr (List.mem_flatMap.2 ⟨m, hm, by unfold refsM; rw [if_pos h0]; simp⟩)))⟩))
  have hov := fun (w' : World) (h : Ext w w') => clone_over w' vo t.overs (hof.overs.mono h) hs.overs
  obtain ⟨Ap, cp, ep⟩ := hof.parts.len
  obtain ⟨Am, cm, em⟩ := hof.methods.len
  obtain ⟨Ao, co, eo⟩ := hof.overs.len
  subst ep em eo
  have Hkd := Lib.hid hkd
  have Hsup := Lib.hid hsup
  have Hpa := Lib.hid hpa
  have Hme := Lib.hid hme
  have Hov := Lib.hid hov
  clear hkd hsup hpa hme hov hT hof hok hs
  have hst : MSt w g cb t (.slice Ap t.parts.length cp) (.slice Am t.methods.length cm) (.slice Ao t.overs.length co) (((w.alloc (.cells #[.int .u8 t.kind, .int .i64 t.low, .int .i64 t.high, .bool t.branded, .string t.brand, .string t.opaq, .int .i64 t.super, .slice Ap t.parts.length cp, .slice Am t.methods.length cm, .slice Ao t.overs.length co] 42)).alloc (.cells #[.func (.func g) #[] cb] 103)).alloc (.cells #[.int .u8 0, .int .i64 0, .int .i64 0, .bool false, .string ⟨#[]⟩, .string ⟨#[]⟩, .int .i64 0, .slice none 0 0, .slice none 0 0, .slice none 0 0] 42)) := by
    refine ⟨(((Ext.refl w).alloc _).alloc _).alloc _, ?_, ?_, ?_⟩
    · exact ((Below.heap_alloc _ _ _ (by simp; omega)).trans (Below.heap_alloc _ _ _ (by simp))).trans (heap_alloc_self w _)
    · have h := heap_alloc_self (w.alloc (.cells #[.int .u8 t.kind, .int .i64 t.low, .int .i64 t.high, .bool t.branded, .string t.brand, .string t.opaq, .int .i64 t.super, .slice Ap t.parts.length cp, .slice Am t.methods.length cm, .slice Ao t.overs.length co] 42)) (.cells #[.func (.func g) #[] cb] 103)
      rw [World.size_alloc] at h
      exact (Below.heap_alloc _ _ _ (by simp)).trans h
    · have h := heap_alloc_self ((w.alloc (.cells #[.int .u8 t.kind, .int .i64 t.low, .int .i64 t.high, .bool t.branded, .string t.brand, .string t.opaq, .int .i64 t.super, .slice Ap t.parts.length cp, .slice Am t.methods.length cm, .slice Ao t.overs.length co] 42)).alloc (.cells #[.func (.func g) #[] cb] 103)) (.cells #[.int .u8 0, .int .i64 0, .int .i64 0, .bool false, .string ⟨#[]⟩, .string ⟨#[]⟩, .int .i64 0, .slice none 0 0, .slice none 0 0, .slice none 0 0] 42)
      rw [World.size_alloc, World.size_alloc] at h
      exact h
  have Hst := Lib.hid hst
  clear hst
  unfold tyV
  cases hs0 : hasSuperB t.kind
  · skip
    have Hs0 := Lib.hid hs0
    clear hs0
    have x0 := heap_cell Hst.out.box 0 _ rfl
    have l0 := Hst.out.box.lt
    go_enter Tryz.func72, Tryz.ntmps72
    go_wp2_with fail
    refine (Hkd.out _).mono ?_
    rintro e w1 ⟨rfl, hw1⟩
    rw [Hs0.out]
    subst hw1
    clear x0 l0
    generalize ((w.alloc (.cells #[.int .u8 t.kind, .int .i64 t.low, .int .i64 t.high, .bool t.branded, .string t.brand, .string t.opaq, .int .i64 t.super, .slice Ap t.parts.length cp, .slice Am t.methods.length cm, .slice Ao t.overs.length co] 42)).alloc (.cells #[.func (.func g) #[] cb] 103)).alloc (.cells #[.int .u8 0, .int .i64 0, .int .i64 0, .bool false, .string ⟨#[]⟩, .string ⟨#[]⟩, .int .i64 0, .slice none 0 0, .slice none 0 0, .slice none 0 0] 42) = W1 at Hst ⊢
    have b0 := Hst.out.box
    have cf := Hst.out.fcell
    have lf := cell_lt cf
    have x7 := heap_cell b0 7 _ rfl
    have lx := Hst.out.box.lt
    clear b0
    go_wp2_with fail
    clear cf lf lx x7
    refine (Hpa.out _ Hst.out.ext Hst.out.fcell).mono ?_
    rintro e w3 ⟨v3, rfl, hv3, hx3⟩
    obtain ⟨A3, c3, e3⟩ := hv3.any.len
    rw [List.length_map] at e3
    subst e3
    have Hv3 := Lib.hid (hv3.mono (G := fun b => w.heap.size + 3 ≤ b) (fun _ _ _ => rfl) (fun b hb _ => by have h5 := Hst.out.zbox.lt; unfold New at hb; omega))
    replace Hst := Lib.hid (Hst.out.later hx3)
    clear hv3 hx3
    have b0 := Hst.out.box
    have cf := Hst.out.fcell
    have lf := cell_lt cf
    have x7 := heap_cell b0 7 _ rfl
    have x8 := heap_cell b0 8 _ rfl
    have z7 := heap_frozen b0 7
    have lx := Hst.out.box.lt
    clear b0
    have Hst2 := Lib.hid (Hst.out.set7 (.slice A3 t.parts.length c3))
    have x82 := heap_cell Hst2.out.box 8 _ rfl
    have cf2 := Hst2.out.fcell
    have lf2 := cell_lt cf2
    go_wp2_with fail
    clear cf lf lx x7 x8 z7
    clear cf2 lf2 x82
    replace Hst := Hst2
    replace Hv3 := Lib.hid (Hv3.out.set (show w.heap.size < w.heap.size + 3 by omega) 7 (.slice A3 t.parts.length c3))
    generalize w3.setCell ⟨w.heap.size, 7, none⟩ (.slice A3 t.parts.length c3) = W3 at Hst Hv3 ⊢
    refine (Hme.out _ Hst.out.ext Hst.out.fcell).mono ?_
    rintro e w4 ⟨v4, rfl, hv4, hx4⟩
    obtain ⟨A4, c4, e4⟩ := hv4.any.len
    rw [List.length_map] at e4
    subst e4
    have Hv4 := Lib.hid (hv4.mono (G := fun b => w.heap.size + 3 ≤ b) (fun _ _ _ => rfl) (fun b hb _ => by have h5 := Hst.out.zbox.lt; unfold New at hb; omega))
    replace Hst := Lib.hid (Hst.out.later hx4)
    replace Hv3 := Lib.hid (Hv3.out.ext hx4)
    clear hv4 hx4
    have b0 := Hst.out.box
    have cf := Hst.out.fcell
    have lf := cell_lt cf
    have x8 := heap_cell b0 8 _ rfl
    have x9 := heap_cell b0 9 _ rfl
    have z8 := heap_frozen b0 8
    have lx := Hst.out.box.lt
    clear b0
    have Hst2 := Lib.hid (Hst.out.set8 (.slice A4 t.methods.length c4))
    have x92 := heap_cell Hst2.out.box 9 _ rfl
    go_wp2_with fail
    clear cf lf lx x8 x9 z8
    clear x92
    replace Hst := Hst2
    replace Hv3 := Lib.hid (Hv3.out.set (show w.heap.size < w.heap.size + 3 by omega) 8 (.slice A4 t.methods.length c4))
    replace Hv4 := Lib.hid (Hv4.out.set (show w.heap.size < w.heap.size + 3 by omega) 8 (.slice A4 t.methods.length c4))
    generalize w4.setCell ⟨w.heap.size, 8, none⟩ (.slice A4 t.methods.length c4) = W4 at Hst Hv3 Hv4 ⊢
    refine (Hov.out _ Hst.out.ext).mono ?_
    rintro e w5 ⟨v5, rfl, hv5, hx5⟩
    obtain ⟨A5, c5, rfl⟩ := hv5.any.len
    have Hv5 := Lib.hid (hv5.mono (G := fun b => w.heap.size + 3 ≤ b) (fun _ _ _ => rfl) (fun b hb _ => by have h5 := Hst.out.zbox.lt; unfold New at hb; omega))
    replace Hst := Lib.hid (Hst.out.later hx5)
    replace Hv3 := Lib.hid (Hv3.out.ext hx5)
    replace Hv4 := Lib.hid (Hv4.out.ext hx5)
    clear hv5 hx5
    have b0 := Hst.out.box
    have x9 := heap_cell b0 9 _ rfl
    have z9 := heap_frozen b0 9
    have lx := Hst.out.box.lt
    clear b0
    have Hst2 := Lib.hid (Hst.out.set9 (.slice A5 t.overs.length c5))
    have b2 := Hst2.out.box
    have q0 := heap_cell b2 0 _ rfl
    have q1 := heap_cell b2 1 _ rfl
    have q2 := heap_cell b2 2 _ rfl
    have q3 := heap_cell b2 3 _ rfl
    have q4 := heap_cell b2 4 _ rfl
    have q5 := heap_cell b2 5 _ rfl
    have q6 := heap_cell b2 6 _ rfl
    have q7 := heap_cell b2 7 _ rfl
    have q8 := heap_cell b2 8 _ rfl
    have q9 := heap_cell b2 9 _ rfl
    have y := Hst2.out.zbox
    have y0 := heap_cell y 0 _ rfl
    have y1 := heap_cell y 1 _ rfl
    have y2 := heap_cell y 2 _ rfl
    have y3 := heap_cell y 3 _ rfl
    have y4 := heap_cell y 4 _ rfl
    have y5 := heap_cell y 5 _ rfl
    have y6 := heap_cell y 6 _ rfl
    have y7 := heap_cell y 7 _ rfl
    have y8 := heap_cell y 8 _ rfl
    have y9 := heap_cell y 9 _ rfl
    have f0 := heap_frozen y 0
    have f1 := heap_frozen y 1
    have f2 := heap_frozen y 2
    have f3 := heap_frozen y 3
    have f4 := heap_frozen y 4
    have f5 := heap_frozen y 5
    have f6 := heap_frozen y 6
    have f7 := heap_frozen y 7
    have f8 := heap_frozen y 8
    have f9 := heap_frozen y 9
    have ly := Hst2.out.zbox.lt
    have lq := Hst2.out.box.lt
    clear b2 y
    go_wp2_with fail
    have e5 := row10_set Hst2.out.zbox (.int .u8 t.kind) (.int .i64 t.low) (.int .i64 t.high) (.bool t.branded) (.string t.brand) (.string t.opaq) (.int .i64 t.super) (.slice A3 t.parts.length c3) (.slice A4 t.methods.length c4) (.slice A5 t.overs.length c5)
    have d0 := heap_cell e5 0 _ rfl
    have d1 := heap_cell e5 1 _ rfl
    have d2 := heap_cell e5 2 _ rfl
    have d3 := heap_cell e5 3 _ rfl
    have d4 := heap_cell e5 4 _ rfl
    have d5 := heap_cell e5 5 _ rfl
    have d6 := heap_cell e5 6 _ rfl
    have d7 := heap_cell e5 7 _ rfl
    have d8 := heap_cell e5 8 _ rfl
    have d9 := heap_cell e5 9 _ rfl
    have hm : turnT f t = ⟨t.kind, t.low, t.high, t.branded, t.brand, t.opaq, t.super, t.parts.map (turnP f), t.methods.map (turnM f), t.overs⟩ := by unfold turnT; rw [Hs0.out]; rfl
    rw [hm]
    refine bodyPost_ret (v := .agg #[.int .u8 t.kind, .int .i64 t.low, .int .i64 t.high, .bool t.branded, .string t.brand, .string t.opaq, .int .i64 t.super, .slice A3 t.parts.length c3, .slice A4 t.methods.length c4, .slice A5 t.overs.length c5]) ?_ rfl ?_
    · simp [results, Tryz.results72, go_sem, d0, d1, d2, d3, d4, d5, d6, d7, d8, d9]
    · refine ⟨_, rfl, ⟨_, ⟨_, _, _, rfl, ?_, ?_, ?_⟩, rfl⟩, ?_⟩
      · refine (Hv3.out.set (show w.heap.size < w.heap.size + 3 by omega) 9 (.slice A5 t.overs.length c5)).mono (fun b hb _ => ?_) (fun b hb _ => (by unfold New; omega))
        rw [Below.heap_setCell _ _ _ _ (by simp; omega), Below.heap_setCell _ _ _ _ (by simp; omega), Below.heap_setCell _ _ _ _ (by simp; omega), Below.heap_setCell _ _ _ _ (by simp; omega), Below.heap_setCell _ _ _ _ (by simp; omega), Below.heap_setCell _ _ _ _ (by simp; omega), Below.heap_setCell _ _ _ _ (by simp; omega), Below.heap_setCell _ _ _ _ (by simp; omega), Below.heap_setCell _ _ _ _ (by simp; omega), Below.heap_setCell _ _ _ _ (by simp; omega)]
      · refine (Hv4.out.set (show w.heap.size < w.heap.size + 3 by omega) 9 (.slice A5 t.overs.length c5)).mono (fun b hb _ => ?_) (fun b hb _ => (by unfold New; omega))
        rw [Below.heap_setCell _ _ _ _ (by simp; omega), Below.heap_setCell _ _ _ _ (by simp; omega), Below.heap_setCell _ _ _ _ (by simp; omega), Below.heap_setCell _ _ _ _ (by simp; omega), Below.heap_setCell _ _ _ _ (by simp; omega), Below.heap_setCell _ _ _ _ (by simp; omega), Below.heap_setCell _ _ _ _ (by simp; omega), Below.heap_setCell _ _ _ _ (by simp; omega), Below.heap_setCell _ _ _ _ (by simp; omega), Below.heap_setCell _ _ _ _ (by simp; omega)]
      · refine (Hv5.out.set (show w.heap.size < w.heap.size + 3 by omega) 9 (.slice A5 t.overs.length c5)).mono (fun b hb _ => ?_) (fun b hb _ => (by unfold New; omega))
        rw [Below.heap_setCell _ _ _ _ (by simp; omega), Below.heap_setCell _ _ _ _ (by simp; omega), Below.heap_setCell _ _ _ _ (by simp; omega), Below.heap_setCell _ _ _ _ (by simp; omega), Below.heap_setCell _ _ _ _ (by simp; omega), Below.heap_setCell _ _ _ _ (by simp; omega), Below.heap_setCell _ _ _ _ (by simp; omega), Below.heap_setCell _ _ _ _ (by simp; omega), Below.heap_setCell _ _ _ _ (by simp; omega), Below.heap_setCell _ _ _ _ (by simp; omega)]
      · exact ((((((((((Hst2.out.ext).setCell (by simp; omega) _).setCell (by simp; omega) _).setCell (by simp; omega) _).setCell (by simp; omega) _).setCell (by simp; omega) _).setCell (by simp; omega) _).setCell (by simp; omega) _).setCell (by simp; omega) _).setCell (by simp; omega) _).setCell (by simp; omega) _
  · skip
    have Hs0 := Lib.hid hs0
    clear hs0
    have x0 := heap_cell Hst.out.box 0 _ rfl
    have l0 := Hst.out.box.lt
    go_enter Tryz.func72, Tryz.ntmps72
    go_wp2_with fail
    refine (Hkd.out _).mono ?_
    rintro e w1 ⟨rfl, hw1⟩
    rw [Hs0.out]
    subst hw1
    clear x0 l0
    generalize ((w.alloc (.cells #[.int .u8 t.kind, .int .i64 t.low, .int .i64 t.high, .bool t.branded, .string t.brand, .string t.opaq, .int .i64 t.super, .slice Ap t.parts.length cp, .slice Am t.methods.length cm, .slice Ao t.overs.length co] 42)).alloc (.cells #[.func (.func g) #[] cb] 103)).alloc (.cells #[.int .u8 0, .int .i64 0, .int .i64 0, .bool false, .string ⟨#[]⟩, .string ⟨#[]⟩, .int .i64 0, .slice none 0 0, .slice none 0 0, .slice none 0 0] 42) = W1 at Hst ⊢
    have b0 := Hst.out.box
    have cf := Hst.out.fcell
    have lf := cell_lt cf
    have x6 := heap_cell b0 6 _ rfl
    have lx := Hst.out.box.lt
    clear b0
    go_wp2_with fail
    refine (Hsup.out _ Hst.out.ext Hs0.out).mono ?_
    rintro e w2 ⟨rfl, hx2⟩
    clear cf lf lx x6
    replace Hst := Lib.hid (Hst.out.later hx2)
    clear hx2
    have b0 := Hst.out.box
    have cf := Hst.out.fcell
    have lf := cell_lt cf
    have x6 := heap_cell b0 6 _ rfl
    have x7 := heap_cell b0 7 _ rfl
    have z6 := heap_frozen b0 6
    have lx := Hst.out.box.lt
    clear b0
    have Hst2 := Lib.hid (Hst.out.set6 (f t.super))
    have cf2 := Hst2.out.fcell
    have x72 := heap_cell Hst2.out.box 7 _ rfl
    have lf2 := cell_lt cf2
    go_wp2_with fail
    clear cf lf lx x6 x7 z6
    clear cf2 x72 lf2
    replace Hst := Hst2
    generalize w2.setCell ⟨w.heap.size, 6, none⟩ (.int .i64 (f t.super)) = W2 at Hst ⊢
    refine (Hpa.out _ Hst.out.ext Hst.out.fcell).mono ?_
    rintro e w3 ⟨v3, rfl, hv3, hx3⟩
    obtain ⟨A3, c3, e3⟩ := hv3.any.len
    rw [List.length_map] at e3
    subst e3
    have Hv3 := Lib.hid (hv3.mono (G := fun b => w.heap.size + 3 ≤ b) (fun _ _ _ => rfl) (fun b hb _ => by have h5 := Hst.out.zbox.lt; unfold New at hb; omega))
    replace Hst := Lib.hid (Hst.out.later hx3)
    clear hv3 hx3
    have b0 := Hst.out.box
    have cf := Hst.out.fcell
    have lf := cell_lt cf
    have x7 := heap_cell b0 7 _ rfl
    have x8 := heap_cell b0 8 _ rfl
    have z7 := heap_frozen b0 7
    have lx := Hst.out.box.lt
    clear b0
    have Hst2 := Lib.hid (Hst.out.set7 (.slice A3 t.parts.length c3))
    have x82 := heap_cell Hst2.out.box 8 _ rfl
    have cf2 := Hst2.out.fcell
    have lf2 := cell_lt cf2
    go_wp2_with fail
    clear cf lf lx x7 x8 z7
    clear cf2 lf2 x82
    replace Hst := Hst2
    replace Hv3 := Lib.hid (Hv3.out.set (show w.heap.size < w.heap.size + 3 by omega) 7 (.slice A3 t.parts.length c3))
    generalize w3.setCell ⟨w.heap.size, 7, none⟩ (.slice A3 t.parts.length c3) = W3 at Hst Hv3 ⊢
    refine (Hme.out _ Hst.out.ext Hst.out.fcell).mono ?_
    rintro e w4 ⟨v4, rfl, hv4, hx4⟩
    obtain ⟨A4, c4, e4⟩ := hv4.any.len
    rw [List.length_map] at e4
    subst e4
    have Hv4 := Lib.hid (hv4.mono (G := fun b => w.heap.size + 3 ≤ b) (fun _ _ _ => rfl) (fun b hb _ => by have h5 := Hst.out.zbox.lt; unfold New at hb; omega))
    replace Hst := Lib.hid (Hst.out.later hx4)
    replace Hv3 := Lib.hid (Hv3.out.ext hx4)
    clear hv4 hx4
    have b0 := Hst.out.box
    have cf := Hst.out.fcell
    have lf := cell_lt cf
    have x8 := heap_cell b0 8 _ rfl
    have x9 := heap_cell b0 9 _ rfl
    have z8 := heap_frozen b0 8
    have lx := Hst.out.box.lt
    clear b0
    have Hst2 := Lib.hid (Hst.out.set8 (.slice A4 t.methods.length c4))
    have x92 := heap_cell Hst2.out.box 9 _ rfl
    go_wp2_with fail
    clear cf lf lx x8 x9 z8
    clear x92
    replace Hst := Hst2
    replace Hv3 := Lib.hid (Hv3.out.set (show w.heap.size < w.heap.size + 3 by omega) 8 (.slice A4 t.methods.length c4))
    replace Hv4 := Lib.hid (Hv4.out.set (show w.heap.size < w.heap.size + 3 by omega) 8 (.slice A4 t.methods.length c4))
    generalize w4.setCell ⟨w.heap.size, 8, none⟩ (.slice A4 t.methods.length c4) = W4 at Hst Hv3 Hv4 ⊢
    refine (Hov.out _ Hst.out.ext).mono ?_
    rintro e w5 ⟨v5, rfl, hv5, hx5⟩
    obtain ⟨A5, c5, rfl⟩ := hv5.any.len
    have Hv5 := Lib.hid (hv5.mono (G := fun b => w.heap.size + 3 ≤ b) (fun _ _ _ => rfl) (fun b hb _ => by have h5 := Hst.out.zbox.lt; unfold New at hb; omega))
    replace Hst := Lib.hid (Hst.out.later hx5)
    replace Hv3 := Lib.hid (Hv3.out.ext hx5)
    replace Hv4 := Lib.hid (Hv4.out.ext hx5)
    clear hv5 hx5
    have b0 := Hst.out.box
    have x9 := heap_cell b0 9 _ rfl
    have z9 := heap_frozen b0 9
    have lx := Hst.out.box.lt
    clear b0
    have Hst2 := Lib.hid (Hst.out.set9 (.slice A5 t.overs.length c5))
    have b2 := Hst2.out.box
    have q0 := heap_cell b2 0 _ rfl
    have q1 := heap_cell b2 1 _ rfl
    have q2 := heap_cell b2 2 _ rfl
    have q3 := heap_cell b2 3 _ rfl
    have q4 := heap_cell b2 4 _ rfl
    have q5 := heap_cell b2 5 _ rfl
    have q6 := heap_cell b2 6 _ rfl
    have q7 := heap_cell b2 7 _ rfl
    have q8 := heap_cell b2 8 _ rfl
    have q9 := heap_cell b2 9 _ rfl
    have y := Hst2.out.zbox
    have y0 := heap_cell y 0 _ rfl
    have y1 := heap_cell y 1 _ rfl
    have y2 := heap_cell y 2 _ rfl
    have y3 := heap_cell y 3 _ rfl
    have y4 := heap_cell y 4 _ rfl
    have y5 := heap_cell y 5 _ rfl
    have y6 := heap_cell y 6 _ rfl
    have y7 := heap_cell y 7 _ rfl
    have y8 := heap_cell y 8 _ rfl
    have y9 := heap_cell y 9 _ rfl
    have f0 := heap_frozen y 0
    have f1 := heap_frozen y 1
    have f2 := heap_frozen y 2
    have f3 := heap_frozen y 3
    have f4 := heap_frozen y 4
    have f5 := heap_frozen y 5
    have f6 := heap_frozen y 6
    have f7 := heap_frozen y 7
    have f8 := heap_frozen y 8
    have f9 := heap_frozen y 9
    have ly := Hst2.out.zbox.lt
    have lq := Hst2.out.box.lt
    clear b2 y
    go_wp2_with fail
    have e5 := row10_set Hst2.out.zbox (.int .u8 t.kind) (.int .i64 t.low) (.int .i64 t.high) (.bool t.branded) (.string t.brand) (.string t.opaq) (.int .i64 (f t.super)) (.slice A3 t.parts.length c3) (.slice A4 t.methods.length c4) (.slice A5 t.overs.length c5)
    have d0 := heap_cell e5 0 _ rfl
    have d1 := heap_cell e5 1 _ rfl
    have d2 := heap_cell e5 2 _ rfl
    have d3 := heap_cell e5 3 _ rfl
    have d4 := heap_cell e5 4 _ rfl
    have d5 := heap_cell e5 5 _ rfl
    have d6 := heap_cell e5 6 _ rfl
    have d7 := heap_cell e5 7 _ rfl
    have d8 := heap_cell e5 8 _ rfl
    have d9 := heap_cell e5 9 _ rfl
    have hm : turnT f t = ⟨t.kind, t.low, t.high, t.branded, t.brand, t.opaq, f t.super, t.parts.map (turnP f), t.methods.map (turnM f), t.overs⟩ := by unfold turnT; rw [Hs0.out]; rfl
    rw [hm]
    refine bodyPost_ret (v := .agg #[.int .u8 t.kind, .int .i64 t.low, .int .i64 t.high, .bool t.branded, .string t.brand, .string t.opaq, .int .i64 (f t.super), .slice A3 t.parts.length c3, .slice A4 t.methods.length c4, .slice A5 t.overs.length c5]) ?_ rfl ?_
    · simp [results, Tryz.results72, go_sem, d0, d1, d2, d3, d4, d5, d6, d7, d8, d9]
    · refine ⟨_, rfl, ⟨_, ⟨_, _, _, rfl, ?_, ?_, ?_⟩, rfl⟩, ?_⟩
      · refine (Hv3.out.set (show w.heap.size < w.heap.size + 3 by omega) 9 (.slice A5 t.overs.length c5)).mono (fun b hb _ => ?_) (fun b hb _ => (by unfold New; omega))
        rw [Below.heap_setCell _ _ _ _ (by simp; omega), Below.heap_setCell _ _ _ _ (by simp; omega), Below.heap_setCell _ _ _ _ (by simp; omega), Below.heap_setCell _ _ _ _ (by simp; omega), Below.heap_setCell _ _ _ _ (by simp; omega), Below.heap_setCell _ _ _ _ (by simp; omega), Below.heap_setCell _ _ _ _ (by simp; omega), Below.heap_setCell _ _ _ _ (by simp; omega), Below.heap_setCell _ _ _ _ (by simp; omega), Below.heap_setCell _ _ _ _ (by simp; omega)]
      · refine (Hv4.out.set (show w.heap.size < w.heap.size + 3 by omega) 9 (.slice A5 t.overs.length c5)).mono (fun b hb _ => ?_) (fun b hb _ => (by unfold New; omega))
        rw [Below.heap_setCell _ _ _ _ (by simp; omega), Below.heap_setCell _ _ _ _ (by simp; omega), Below.heap_setCell _ _ _ _ (by simp; omega), Below.heap_setCell _ _ _ _ (by simp; omega), Below.heap_setCell _ _ _ _ (by simp; omega), Below.heap_setCell _ _ _ _ (by simp; omega), Below.heap_setCell _ _ _ _ (by simp; omega), Below.heap_setCell _ _ _ _ (by simp; omega), Below.heap_setCell _ _ _ _ (by simp; omega), Below.heap_setCell _ _ _ _ (by simp; omega)]
      · refine (Hv5.out.set (show w.heap.size < w.heap.size + 3 by omega) 9 (.slice A5 t.overs.length c5)).mono (fun b hb _ => ?_) (fun b hb _ => (by unfold New; omega))
        rw [Below.heap_setCell _ _ _ _ (by simp; omega), Below.heap_setCell _ _ _ _ (by simp; omega), Below.heap_setCell _ _ _ _ (by simp; omega), Below.heap_setCell _ _ _ _ (by simp; omega), Below.heap_setCell _ _ _ _ (by simp; omega), Below.heap_setCell _ _ _ _ (by simp; omega), Below.heap_setCell _ _ _ _ (by simp; omega), Below.heap_setCell _ _ _ _ (by simp; omega), Below.heap_setCell _ _ _ _ (by simp; omega), Below.heap_setCell _ _ _ _ (by simp; omega)]
      · exact ((((((((((Hst2.out.ext).setCell (by simp; omega) _).setCell (by simp; omega) _).setCell (by simp; omega) _).setCell (by simp; omega) _).setCell (by simp; omega) _).setCell (by simp; omega) _).setCell (by simp; omega) _).setCell (by simp; omega) _).setCell (by simp; omega) _).setCell (by simp; omega) _
end Go.Proofs.YtldnjnnhfeobdaaGreatDoor
/- Contract: Merge. Conditions: lengths below 2^20. -/
namespace Go.Proofs.YtldnjnnhfeobdaaGreatDoor
set_option linter.all false
set_option linter.unusedSimpArgs false
set_option linter.unusedVariables false
open Go.RowKit Go.Shelf

/-- how many stand for themselves -/
def repsN (cs : List Nat) (k : Nat) : Nat := (List.range k).countP fun i => cs.getD i 0 == i
def placeL (cs : List Nat) (n k : Nat) : List Nat := (List.range n).map fun i => if i < k ∧ cs.getD i 0 = i then repsN cs i else 0
def toF (cs pl : List Nat) (x : Int) : Int := (pl.getD (cs.getD x.toNat 0) 0 : Nat)
def mergeL (g : Graph) (cs pl : List Nat) (k : Nat) : List Ty := ((List.range k).filter fun i => cs.getD i 0 == i).map fun i => turnT (toF cs pl) (getT g i)
def mergeG (g : Graph) : Graph := if errG g [] = 0 then mergeL g (classesG g) (placeL (classesG g) g.length g.length) g.length else []
def mergeTo (g : Graph) : List Int := if errG g [] = 0 then (classesG g).map (fun c => ((placeL (classesG g) g.length g.length).getD c 0 : Int)) else []
theorem repsN_succ (cs : List Nat) (k : Nat) : repsN cs (k + 1) = repsN cs k + if cs.getD k 0 = k then 1 else 0 := by
  unfold repsN
  rw [List.range_succ, List.countP_append]
  by_cases h : cs.getD k 0 = k <;> simp [h, List.countP_cons]
theorem repsN_le (cs : List Nat) (k : Nat) : repsN cs k ≤ k := by
  have := List.countP_le_length (p := fun i => cs.getD i 0 == i) (l := List.range k)
  unfold repsN
  simpa using this
theorem placeL_length (cs : List Nat) (n k : Nat) : (placeL cs n k).length = n := by simp [placeL]
theorem placeL_zero (cs : List Nat) (n : Nat) : placeL cs n 0 = List.replicate n 0 := by
  refine List.ext_getElem (by simp [placeL]) fun i h1 h2 => ?_
  simp [placeL]
theorem placeL_yes {cs : List Nat} {n k : Nat} (hk : k < n) (h : cs.getD k 0 = k) : (placeL cs n k).set k (repsN cs k) = placeL cs n (k + 1) := by
  refine List.ext_getElem (by simp [placeL]) fun i h1 h2 => ?_
  rw [List.getElem_set]
  simp only [placeL, List.getElem_map, List.getElem_range]
  by_cases e : k = i
  · subst e; rw [if_pos rfl, if_pos ⟨by omega, h⟩]
  · rw [if_neg e]
    by_cases h3 : i < k ∧ cs.getD i 0 = i
    · rw [if_pos h3, if_pos ⟨by omega, h3.2⟩]
    · rw [if_neg h3, if_neg (fun h4 => h3 ⟨by omega, h4.2⟩)]
theorem placeL_no {cs : List Nat} {n k : Nat} (h : cs.getD k 0 ≠ k) : placeL cs n (k + 1) = placeL cs n k := by
  refine List.ext_getElem (by simp [placeL]) fun i h1 h2 => ?_
  simp only [placeL, List.getElem_map, List.getElem_range]
  by_cases h3 : i < k ∧ cs.getD i 0 = i
  · rw [if_pos h3, if_pos ⟨by omega, h3.2⟩]
  · rw [if_neg h3, if_neg (fun h4 => h3 ⟨by have : i ≠ k := fun e => h (e ▸ h4.2); omega, h4.2⟩)]
theorem mergeL_succ (g : Graph) (cs pl : List Nat) (k : Nat) : mergeL g cs pl (k + 1) = mergeL g cs pl k ++ if cs.getD k 0 = k then [turnT (toF cs pl) (getT g k)] else [] := by
  unfold mergeL
  rw [List.range_succ, List.filter_append, List.map_append]
  congr 1
  simp only [List.filter_cons, List.filter_nil]
  by_cases h : cs.getD k 0 = k
  · rw [if_pos h, if_pos (beq_iff_eq.2 h)]; rfl
  · rw [if_neg h, if_neg (fun h' => h (beq_iff_eq.1 h'))]; rfl
theorem mergeL_le (g : Graph) (cs pl : List Nat) (k : Nat) : (mergeL g cs pl k).length ≤ k := by
  unfold mergeL
  rw [List.length_map]
  have := List.length_filter_le (fun i => cs.getD i 0 == i) (List.range k)
  simpa using this

/-! ### what holds while the graph is merged -/
structure GSt (w : World) (b7 b8 Bp : Nat) (Ac : Option Addr) (cc n : Nat) (cs pl : List Nat) (wr : World) : Prop where
  ext : Ext w wr
  cbox : Boxed wr b7 24 (.slice Ac n cc)
  pbox : Boxed wr b8 24 (.slice (some ⟨Bp, 0, none⟩) n n)
  row : IntRow wr Bp pl
  cls : SlF (fun b => b < Bp) intE wr (.slice Ac n cc) (cs.map fun (n : Nat) => (n : Int))
  len : cs.length = n ∧ pl.length = n
  nb : w.heap.size ≤ Bp ∧ b7 < Bp ∧ Bp < b8
section
variable {w wr wr' : World} {b7 b8 Bp : Nat} {Ac : Option Addr} {cc n : Nat} {cs pl : List Nat}
theorem GSt.later (h : GSt w b7 b8 Bp Ac cc n cs pl wr) (hx : Ext wr wr') : GSt w b7 b8 Bp Ac cc n cs pl wr' :=
  ⟨h.ext.trans hx, Boxed.ext h.cbox hx, Boxed.ext h.pbox hx, h.row.ext hx, h.cls.ext hx, h.len, h.nb⟩
theorem GSt.set (h : GSt w b7 b8 Bp Ac cc n cs pl wr) (i v : Nat) : GSt w b7 b8 Bp Ac cc n cs (pl.set i v) (wr.setCell ⟨Bp, i, none⟩ (.int .i64 (v : Int))) :=
  ⟨h.ext.setCell h.nb.1 _, Boxed.other' h.cbox _ (by have := h.nb.2.1; omega), Boxed.other' h.pbox _ (by have := h.nb.2.2; omega), h.row.set i v,
   h.cls.mono (fun b hb _ => Below.heap_setCell _ _ _ _ (by simp; omega)) (fun _ h _ => h), ⟨h.len.1, by simp [h.len.2]⟩, h.nb⟩
theorem GSt.class (h : GSt w b7 b8 Bp Ac cc n cs pl wr) (i : Nat) (hi : i < n) : ∃ b off, Ac = some ⟨b, off, none⟩ ∧ wr.cell? ⟨b, off + i, none⟩ = some (.int .i64 (cs.getD i 0 : Nat)) := by
  obtain ⟨A, c, e, hc⟩ := Sl.nat h.cls.any
  simp only [Value.slice.injEq] at e
  obtain ⟨rfl, _, _⟩ := e
  exact hc i (by rw [h.len.1]; exact hi)
end
set_option maxRecDepth 100000 in
theorem merge1_any (w0 w : World) (b7 b8 Bp : Nat) (Ac : Option Addr) (cc n i : Nat) (cs pl : List Nat) (h : GSt w0 b7 b8 Bp Ac cc n cs pl w) (hi : i < n) (hn : n ≤ 1048576) (hc : ∀ k, k < n → cs.getD k 0 < n) :
    Calls Tryz.prog 71 #[.int .i64 i, .pointer (some ⟨b8, 0, none⟩), .pointer (some ⟨b7, 0, none⟩)] w (Ret w (.int .i64 (toF cs pl i))) := by
  have c7 := h.cbox.cell
  have c8 := h.pbox.cell
  obtain ⟨b, off, rfl, c1⟩ := h.class i hi
  have hci := hc i hi
  have c2 := h.row.cell (cs.getD i 0) (by rw [h.len.2]; exact hci)
  unfold toF
  rw [Int.toNat_natCast]
  generalize cs.getD i 0 = c at *
  have l7 := cell_lt c7
  have l8 := cell_lt c8
  have l1 := cell_lt c1
  have l2 := cell_lt c2
  have i0 : (0 : Int) ≤ (i : Int) := by omega
  have i1 : (i : Int) < (n : Int) := by omega
  have i2 : (0 : Int) ≤ (c : Int) := by omega
  have i3 : (c : Int) < (n : Int) := by omega
  clear h hc
  go_enter Tryz.func71, Tryz.ntmps71
  go_wp2_with fail
  go_quiet (fail)
  go_wp2_with fail
  go_ret
  exact ⟨rfl, (Ext.refl w).drewN _⟩
set_option maxRecDepth 100000 in
theorem merge2_any (w0 w : World) (b7 b8 Bp : Nat) (Ac : Option Addr) (cc n i : Nat) (cs pl : List Nat) (h : GSt w0 b7 b8 Bp Ac cc n cs pl w) (hi : i < n) (hn : n ≤ 1048576) :
    Calls Tryz.prog 74 #[.int .i64 i, .pointer (some ⟨b8, 0, none⟩)] w (Ret w (.int .i64 (pl.getD i 0 : Nat))) := by
  have c8 := h.pbox.cell
  have c2 := h.row.cell i (by rw [h.len.2]; exact hi)
  have l8 := cell_lt c8
  have l2 := cell_lt c2
  have i0 : (0 : Int) ≤ (i : Int) := by omega
  have i1 : (i : Int) < (n : Int) := by omega
  clear h
  go_enter Tryz.func74, Tryz.ntmps74
  go_wp2_with fail
  go_ret
  exact ⟨rfl, Ext.refl w⟩
theorem top71 {w0 w : World} {b7 b8 Bp : Nat} {Ac : Option Addr} {cc n : Nat} {cs pl : List Nat} (h : GSt w0 b7 b8 Bp Ac cc n cs pl w) (hn : n ≤ 1048576) (hc : ∀ k, k < n → cs.getD k 0 < n) :
    ToP w 71 #[.pointer (some ⟨b8, 0, none⟩), .pointer (some ⟨b7, 0, none⟩)] (toF cs pl) (fun i => 0 ≤ i ∧ i < n) :=
  ⟨enters_of Tryz.func71 (by kernel_rfl) rfl, fun i hi w' hx => by
    obtain ⟨j, rfl⟩ := Int.eq_ofNat_of_zero_le hi.1
    exact merge1_any w0 w' b7 b8 Bp Ac cc n j cs pl (h.later hx) (by omega) hn hc⟩
theorem map74 {w0 w : World} {b7 b8 Bp : Nat} {Ac : Option Addr} {cc n : Nat} {cs pl : List Nat} (h : GSt w0 b7 b8 Bp Ac cc n cs pl w) (hn : n ≤ 1048576) (xs : List Int) (hx : ∀ x ∈ xs, 0 ≤ x ∧ x < n) :
    MapP intE intE w 74 #[.pointer (some ⟨b8, 0, none⟩)] xs (fun x => (pl.getD x.toNat 0 : Nat)) :=
  ⟨enters_of Tryz.func74 (by kernel_rfl) rfl, by
    rintro x hm w' A hxt ⟨_, rfl, rfl⟩
    obtain ⟨j, rfl⟩ := Int.eq_ofNat_of_zero_le (hx x hm).1
    exact res_int (merge2_any w0 w' b7 b8 Bp Ac cc n j cs pl (h.later hxt) (by have := (hx _ hm).2; omega) hn)⟩
end Go.Proofs.YtldnjnnhfeobdaaGreatDoor
