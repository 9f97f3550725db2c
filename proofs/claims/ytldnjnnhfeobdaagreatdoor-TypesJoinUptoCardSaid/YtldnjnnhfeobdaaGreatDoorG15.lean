/- Parts of the proof, joined: Contracts of the reference: what ways lead to (reach, Reach). Conditions: a tidy graph; Plain law: what is reached, sorted; two graphs side by side. No program. No condition; Contract: Reach. Conditions: a tidy graph; Contract of the reference: Reach. Conditions: a tidy graph; A graph that the call itself lays, type by type: rows of ten cells in one block. No condition; append of a whole slice whose elements refer to other memory, at a step of a region that draws its order. No condition; Contracts: turned at types; what Join turns types with; appending a list of types. Conditions: lengths below 2^20; Contract: Join. Conditions: tidy graphs; Contract of the reference: Join. Conditions: tidy graphs; The law TypesJoin returns true. Conditions: tidy graphs. -/
import Derived.Sort.OwnSortedInts
import Derived.Test.YtldnjnnhfeobdaaGreatDoorG07
import Derived.Test.YtldnjnnhfeobdaaGreatDoorG08
import Derived.Test.YtldnjnnhfeobdaaGreatDoorG11
import Derived.Test.YtldnjnnhfeobdaaGreatDoorG06
import Derived.Test.YtldnjnnhfeobdaaGreatDoorShelfSort
import Derived.Test.YtldnjnnhfeobdaaGreatDoorG09
import Derived.Test.YtldnjnnhfeobdaaGreatDoorG05
import Derived.Test.YtldnjnnhfeobdaaGreatDoorG12
set_option linter.all false
set_option linter.unusedSimpArgs false
set_option linter.unusedVariables false
namespace Go.Proofs.YtldnjnnhfeobdaaGreatDoor
open Go.RowKit Go.Shelf
/-- a block of marks -/
def BoolRow (w : World) (b : Nat) (xs : List Bool) : Prop := w.heap[b]? = some (.cells (xs.map Value.bool).toArray 4 (0, 0))
section
variable {w w' : World} {b : Nat} {xs : List Bool}
theorem BoolRow.ext (h : BoolRow w b xs) (hx : Ext w w') : BoolRow w' b xs := hx.heap h
theorem BoolRow.lt (h : BoolRow w b xs) : b < w.heap.size := (Array.getElem?_eq_some_iff.1 h).1
theorem BoolRow.cell (h : BoolRow w b xs) (i : Nat) (hi : i < xs.length) : w.cell? ⟨b, i, none⟩ = some (.bool (xs.getD i false)) := by
 refine heap_cell h i _ ?_
 simp [List.getD_eq_getElem?_getD, List.getElem?_eq_getElem hi]
theorem BoolRow.frozen (h : BoolRow w b xs) (i : Nat) : w.frozen? ⟨b, i, none⟩ = false := heap_frozen h i
theorem BoolRow.set (h : BoolRow w b xs) (i : Nat) (v : Bool) : BoolRow (w.setCell ⟨b, i, none⟩ (.bool v)) b (xs.set i v) := by
 have := heap_set h i (.bool v)
 unfold BoolRow
 rw [this]
 simp [List.map_set]
end
/-- a new row of marks -/
def noMarks (n : Nat) : Obj := .cells ((List.replicate n false).map Value.bool).toArray 4
theorem infoMark : (Tryz.prog.info? 4).map (fun i => (i.zero, i.size, i.bytes)) = some (some (.bool false), 1, 1) := by kernel_rfl
set_option maxRecDepth 100000 in
theorem make_marks (w : World) (n : Nat) (hn : n ≤ 1048576) : (Instr.makeSlice 121 (.int .i64 (n : Int)) (.int .i64 (n : Int))).run Tryz.prog w = .ok (.slice (some ⟨w.heap.size, 0, none⟩) n n) (w.alloc (noMarks n)) := by
 obtain ⟨i0, hi, hz0, hz1, hz2⟩ := info_parts infoMark
 have h := run_makeSlice (P := Tryz.prog) (w := w) 121 4 i0 (.bool false) Tryz.underlying121 hi hz0 .i64 .i64 n n (by omega) (by omega) (by rw [hz1, Int.toNat_natCast]; omega) (by rw [hz2]; omega) (by omega)
 rw [h, Int.toNat_natCast, hz1]
 have e : madeCells (Value.bool false).cells (n * 1) = ((List.replicate n false).map Value.bool).toArray := by
  apply Array.ext
  ·simp [madeCells]
  ·intro i h1 h2
   simp [madeCells, Value.cells, Nat.mod_one]
 rw [e]
 rfl
/-- the marks of a list of types -/
def marksL (n : Nat) (out : List Nat) : List Bool := (List.range n).map fun i => decide (i ∈ out)
theorem marksL_length (n : Nat) (out : List Nat) : (marksL n out).length = n := by simp [marksL]
theorem marksL_nil (n : Nat) : marksL n [] = List.replicate n false := by
 unfold marksL
 refine List.ext_getElem? fun i => ?_
 rw [List.getElem?_map, List.getElem?_replicate]
 by_cases hi : i < n
 ·rw [List.getElem?_range hi, if_pos hi]; simp
 ·rw [List.getElem?_eq_none (by simp; omega), if_neg hi]; rfl
theorem marksL_getD {n i : Nat} (out : List Nat) (hi : i < n) : (marksL n out).getD i false = decide (i ∈ out) := by
 unfold marksL
 rw [List.getD_eq_getElem?_getD, List.getElem?_map, List.getElem?_range hi]; rfl
theorem marksL_set {n r : Nat} (out : List Nat) (hr : r < n) : (marksL n out).set r true = marksL n (out ++ [r]) := by
 refine List.ext_getElem? fun i => ?_
 unfold marksL
 rw [List.getElem?_set, List.length_map, List.length_range]
 by_cases e : r = i
 ·subst e
  rw [if_pos rfl, if_pos hr, List.getElem?_map, List.getElem?_range hr]
  simp
 ·rw [if_neg e, List.getElem?_map, List.getElem?_map]
  by_cases hi : i < n
  ·rw [List.getElem?_range hi]
   simp only [Option.map_some, Option.some.injEq]
   rw [Bool.eq_iff_iff, decide_eq_true_iff, decide_eq_true_iff, List.mem_append, List.mem_singleton]
   exact ⟨.inl, fun h => h.elim id (fun h => absurd h.symm e)⟩
  ·rw [List.getElem?_eq_none (by simp; omega)]; rfl
theorem addN_take (out : List Nat) (rs : List Nat) {j : Nat} (hj : j < rs.length) : addN (fun i => i) out (rs.take (j + 1)) = if rs[j] ∈ addN (fun i => i) out (rs.take j) then addN (fun i => i) out (rs.take j) else addN (fun i => i) out (rs.take j) ++ [rs[j]] := by
 rw [List.take_succ_eq_append_getElem hj, addN_append, addN_one]
 simp only [List.map_id']
/-- what the reference's reach keeps -/
structure RRe (w : World) (Bm n : Nat) (out : List Nat) (v : Value) (wr : World) : Prop where
 ext : Ext w wr
 marks : BoolRow wr Bm (marksL n out)
 own : Own (fun b => Bm < b) intE wr (Bm + 1) 3 v (out.map fun (n : Nat) => (n : Int))
 nb : w.heap.size ≤ Bm
section
variable {w wr wr' : World} {Bm n : Nat} {out : List Nat} {v : Value}
theorem RRe.later (h : RRe w Bm n out v wr) (hx : Ext wr wr') : RRe w Bm n out v wr' := ⟨h.ext.trans hx, h.marks.ext hx, h.own.kept hx, h.nb⟩
end
section
variable {P : Program} {ops : Array Oper} {rest : List Oper} {o : Oper} {a : Act} {Q : Exit → Act → World → Prop}
/-- append of one element, which lies in a new block behind W; the slice's block afterwards -/
theorem own_append2 {α : Type} {F : Nat → Prop} (E : Elt α) {W : World} (base : Nat) (hgd : o.guard = none) (s x : Operand) (t e : TypeId) (bytes : Nat)
  (ho : o.op = .call { callee := .builtin .append, args := #[s, x], argTypes := #[t, t] }) (hI : SliceOf P t e E.k bytes)
  (v : Value) (xs : List α) (y : α) (cs : List Value) (hs : a.eval s = v) (hx : a.eval x = .slice (some ⟨W.heap.size, 0, none⟩) 1 1)
  (HO : Own F E W base e v xs) (hy : E.rel (fun b => F b ∧ some b ≠ v.ownBlock) W y cs) (hbase : base ≤ W.heap.size) (hl : (xs.length + 1) * bytes ≤ 140737488355328) (hb0 : 0 < bytes)
  (h : ∀ v1 w1, Own F E w1 base e v1 (xs ++ [y]) → W.grownBy w1 v.ownBlock → (∀ b, v1.ownBlock = some b → v.ownBlock = some b ∨ W.heap.size ≤ b) → wpList P ops Q rest (a.put o.dst v1) w1) :
  wpList P ops Q (o :: rest) a (W.alloc (.cells cs.toArray e)) := by
 obtain ⟨i, z, hi, hz, hsz, hby, hzs⟩ := hI.info
 obtain ⟨rows, hrl, hown, hr⟩ := HO
 have hcl : cs.length = E.k := E.len _ _ _ _ hy
 have hlen : xs.length + 1 ≤ 140737488355328 := Nat.le_trans (Nat.le_mul_of_pos_right _ hb0) hl
 refine wpList_append_own_at (W.alloc (.cells cs.toArray e)) hgd s x t ho base e i z E.k bytes hI.under hi hz hsz hby hzs E.pos v xs.length rows.flatten hs (hown.alloc _) ⟨W.heap.size, 0, none⟩ 1 1 cs hx (by omega)
  (fun j u hj => ?_) (E.one _ _ _ _ hy) (by simp only [maxLen]; omega) hl (by simp; omega) ?_
 ·have hlt : j < cs.length := (List.getElem?_eq_some_iff.1 hj).1
  have ha : (⟨W.heap.size, 0, none⟩ : Addr).add j = ⟨W.heap.size, j, none⟩ := by unfold Addr.add; split <;> simp_all
  rw [ha, World.cell?_alloc_new]
  simpa using hj
 ·intro v1 w1 hown1 hg _ hat
  have hg' : W.grownBy w1 v.ownBlock := World.grownBy.trans (World.grownBy_alloc W _ _) hg
  have hlt := hown.lt
  refine h v1 w1 ⟨rows ++ [cs], by simp [hrl], by simpa using hown1, ?_⟩ hg' (fun b hb => hat.elim (fun hat => .inl (hat ▸ hb)) (fun hat => .inr (by rw [hat] at hb; injection hb with hb; simp at hb; omega)))
  intro k x1 r h1 h2
  have keep : ∀ x2 r2, E.rel (fun b => F b ∧ some b ≠ v.ownBlock) W x2 r2 → E.rel (fun b => F b ∧ some b ≠ v1.ownBlock) w1 x2 r2 := by
   intro x2 r2 h3
   refine E.mono _ _ _ _ _ _ (fun b hb hbl => hg'.block b hbl hb.2) (fun b hb hbl => ⟨hb.1, ?_⟩) h3
   rcases hat with hat | hat
   ·rw [hat]; exact hb.2
   ·rw [hat]; intro e; injection e with e; simp at e; omega
  by_cases hk : k < xs.length
  ·rw [List.getElem?_append_left hk] at h1
   rw [List.getElem?_append_left (by omega)] at h2
   exact keep _ _ (hr k x1 r h1 h2)
  ·rw [List.getElem?_append_right (by omega)] at h1
   rw [List.getElem?_append_right (by omega), hrl] at h2
   have hk0 : k - xs.length = 0 := by
    have := (List.getElem?_eq_some_iff.1 h1).1
    simp at this
    omega
   rw [hk0] at h1 h2
   simp at h1 h2
   subst h1 h2
   exact keep _ _ hy
end
/-- blocks between two marks -/
def Btn (lo hi : Nat) : Nat → Prop := fun b => lo ≤ b ∧ b < hi
theorem addN_sub (out rs : List Nat) {n : Nat} (h1 : ∀ i ∈ out, i < n) (h2 : ∀ i ∈ rs, i < n) : ∀ i ∈ addN (fun i => i) out rs, i < n := by
 obtain ⟨new, e, h3, _, _⟩ := addN_spec (cls := fun i => i) rs out
 rw [e]
 intro i hi
 rcases List.mem_append.1 hi with hi | hi
 ·exact h1 i hi
 ·exact h2 i (h3 i hi)
theorem addN_nodup (out rs : List Nat) (h : out.Nodup) : (addN (fun i => i) out rs).Nodup := by
 obtain ⟨new, e, _, _, h4⟩ := addN_spec (cls := fun i => i) rs out
 rw [e]
 simp only [List.map_id'] at h4
 exact h4 h
theorem nodup_le {l : List Nat} {n : Nat} (h : l.Nodup) (h1 : ∀ i ∈ l, i < n) : l.length ≤ n := by
 have := nodup_length_le (s := l) (l := List.range n) h (fun x hx => List.mem_range.2 (h1 x hx))
 simpa using this
set_option maxRecDepth 100000 in
set_option maxHeartbeats 16000000 in
theorem rreach_any (w : World) (gv : Value) (g : Graph) (a : Nat) (hg : Sl tyE w gv g) (hT : Tidy g) (hW : WF g) (ha : a < g.length) :
  Calls Tryz.prog 90 #[gv, .int .i64 (a : Int)] w (RetP w (fun w' v => ∃ b, v = .slice (some ⟨b, 0, none⟩) g.length g.length ∧ BoolRow w' b (marksL g.length (reachN (fun i => i) (refsN g) (g.length + 1) 0 [a])))) := by
 have hn := hT.len
 have hmk := fun w' => make_marks w' g.length hn
 have hfine := fun i (hi : i < g.length) => hW.fine (getT_mem hi)
 have hrf : ∀ i, i < g.length → ∀ r ∈ refsN g i, r < g.length := fun i hi r hr => by
  obtain ⟨q, hq, rfl⟩ := List.mem_map.1 hr
  have := (hfine i hi).refs q hq
  omega
 have hcast := fun i (hi : i < g.length) => refsN_cast hW hi
 have hlen7 := fun i (hi : i < g.length) => (hfine i hi).refs_le
 obtain ⟨A, cap, rfl, hs⟩ := hg.ty
 have Hs := Lib.hid hs
 have Hfine := Lib.hid hfine
 have Hrf := Lib.hid hrf
 have Hcast := Lib.hid hcast
 have Hlen7 := Lib.hid hlen7
 clear hs hg hT hW hfine hrf hcast hlen7
 have i0 : (0 : Int) ≤ (a : Int) := by omega
 have i1 : (a : Int) < (g.length : Int) := by omega
 generalize hR : reachN (fun i => i) (refsN g) (g.length + 1) 0 [a] = R
 have HR := Lib.hid hR
 clear hR
 go_enter Tryz.func90, Tryz.ntmps90
 go_upto_region 2 with fail
 have Hm0 := Lib.hid (show BoolRow (w.alloc (noMarks g.length)) w.heap.size (marksL g.length []) from by rw [marksL_nil]; exact heap_alloc_self w (noMarks g.length))
 have Hx0 := Lib.hid ((Ext.refl w).alloc (noMarks g.length))
 generalize w.alloc (noMarks g.length) = wm at *
 have HB := Lib.hid (Nat.le_refl w.heap.size)
 generalize hBm : w.heap.size = Bm at Hm0 HB ⊢
 have HB1 := Lib.hid (show w.heap.size ≤ Bm by omega)
 clear hBm HB
 have c0 := Hm0.out.cell a (by rw [marksL_length]; exact ha)
 rw [marksL_getD _ ha] at c0
 have f0 := Hm0.out.frozen a
 have l0 := Hm0.out.lt
 go_upto_region 3 with fail
 have Hm1 := Lib.hid (show BoolRow (wm.setCell ⟨Bm, a, none⟩ (.bool true)) Bm (marksL g.length [a]) from by
  have h := Hm0.out.set a true
  rwa [marksL_set _ ha] at h)
 have Hx1 := Lib.hid (Hx0.out.setCell (p := ⟨Bm, a, none⟩) HB1.out (.bool true))
 clear c0 f0 l0 Hm0 Hx0
 generalize wm.setCell ⟨Bm, a, none⟩ (.bool true) = ws at *
 go_wp2_with fail
 have Hst : Hid (RRe w Bm g.length [a] (.slice (some ⟨ws.heap.size, 0, none⟩) 1 1) (ws.alloc (.cells #[.int .i64 (a : Int)] 3))) := Lib.hid
  ⟨Hx1.out.alloc _, Hm1.out.ext ((Ext.refl ws).alloc _), Own.one (E := intE) (news := [.int .i64 (a : Int)]) (y := (a : Int)) (by have := Hm1.out.lt; omega) rfl, HB1.out⟩
 generalize ws.alloc (.cells #[.int .i64 (a : Int)] 3) = w3 at *
 clear Hm1 Hx1
 go_loopw [6, 7] (fun v u wr => ∃ (k : Nat) (out : List Nat), u = .int .i64 k ∧ Hid (RInv g.length (fun i => i) (refsN g) a k out ∧ reachN (fun i => i) (refsN g) (g.length + 1 - k) k out = R) ∧ Hid (RRe w Bm g.length out v wr)) (fun _ u _ => g.length + 1 - (intOf u).toNat)
 case atStart => exact ⟨0, [a], rfl, Lib.hid ⟨RInv.init ha, HR.out⟩, Hst⟩
 case round =>
  clear Hst HR
  obtain ⟨k, out, rfl, HI, Hst⟩ := hrel
  obtain ⟨hI, hRe⟩ := HI.out
  have hol := hI.len (fun i hi => hi)
  have hkl := hI.le
  obtain ⟨Av, cv, rfl, hsv⟩ := Sl.nat (Hst.out.own.sl (F := fun b => Bm < b) (fun b hb => by omega)).any
  by_cases hlt : k < out.length
  ·have hi : out[k]? = some out[k] := List.getElem?_eq_getElem hlt
   have hin : out[k] < g.length := hI.rng _ (List.getElem_mem hlt)
   have hstep := hI.step Hrf.out hi
   have hgo := reachN_go (cls := fun i => i) (rf := refsN g) (f := g.length - k) hi
   rw [show g.length - k + 1 = g.length + 1 - k by omega, hRe] at hgo
   obtain ⟨bv, ov, rfl, c1⟩ := hsv k hlt
   have eD : out.getD k 0 = out[k] := by rw [List.getD_eq_getElem?_getD, List.getElem?_eq_getElem hlt]; rfl
   rw [eD] at c1
   generalize out[k] = i at *
   obtain ⟨gb, go, vp, vm, vo, rfl, hat, hof⟩ := Hs.out i hin
   rw [← getT_lt hin] at hat hof
   have hrr := fun w' (hx : Ext w w') => rrefs_any w' g.length (getT g i) vp vm vo (hof.mono hx) (Hfine.out i hin)
   have hrl := Hlen7.out i hin
   have hrn := refsN_length g i
   rw [← Hcast.out i hin] at hrr
   have hrg := Hrf.out i hin
   obtain ⟨P1, p1, e1⟩ := hof.parts.len
   obtain ⟨P2, p2, e2⟩ := hof.methods.len
   obtain ⟨P3, p3, e3⟩ := hof.overs.len
   subst e1 e2 e3
   unfold tyV at hrr
   rw [← hrn] at hrl
   generalize refsN g i = rs at *
   generalize getT g i = t at *
   have Hrr := Lib.hid hrr
   have Hrg := Lib.hid hrg
   have Hstep := Lib.hid hstep
   have Hgo := Lib.hid hgo
   have Hrng := Lib.hid hI.rng
   have Hnd := Lib.hid (show out.Nodup from by have := hI.nodup; simpa using this)
   obtain ⟨d0, d1, d2, d3, d4, d5, d6, d7, d8, d9⟩ := hat.mono Hst.out.ext
   have ld := cell_lt d0
   have lv := cell_lt c1
   have j0 : (0 : Int) ≤ (k : Int) := by omega
   have j1 : (k : Int) < (out.length : Int) := by omega
   have j2 : (0 : Int) ≤ (i : Int) := by omega
   have j3 : (i : Int) < (g.length : Int) := by omega
   clear hrr hrg hstep hgo hI hRe hof hat hi eD hrn HI hsv
   go_wp2_with fail
   refine (Hrr.out _ Hst.out.ext).mono ?_
   rintro e w8 ⟨v8, rfl, hv8, hx8⟩
   obtain ⟨A8, c8, e8⟩ := hv8.any.len
   rw [List.length_map] at e8
   subst e8
   have Hv8 := Lib.hid (show SlF (Btn wr.heap.size w8.heap.size) intE w8 (.slice A8 rs.length c8) (rs.map fun (n : Nat) => (n : Int)) from SlF.mono hv8 (fun _ _ _ => rfl) (fun b hb hlt => ⟨hb, hlt⟩))
   have Hob := Lib.hid (show ∀ b, (Value.slice (some ⟨bv, ov, none⟩) out.length cv).ownBlock = some b → b < wr.heap.size ∨ w8.heap.size ≤ b from fun b hb => .inl (Hst.out.own.lt b hb).2)
   have HBl := Lib.hid Hst.out.marks.lt
   replace Hst := Lib.hid (Hst.out.later hx8)
   clear hv8 hx8 d0 d1 d2 d3 d4 d5 d6 d7 d8 d9 ld c1 lv
   have Hhi := Lib.hid (Nat.le_refl w8.heap.size)
   generalize hlo : wr.heap.size = lo at *
   generalize hhi : w8.heap.size = hi at Hv8 Hob Hhi
   replace Hhi := Lib.hid (show hi ≤ w8.heap.size by omega)
   clear hlo hhi
   go_wp2_with fail
   obtain ⟨wo, rfl⟩ : ∃ wo : World, wo = wr := ⟨_, rfl⟩
   go_loopw [6, 9] (fun v u wq => ∃ j : Nat, j ≤ rs.length ∧ u = .int .i64 j ∧ Hid (RRe w Bm g.length (addN (fun i => i) out (rs.take j)) v wq) ∧ Hid (SlF (Btn lo hi) intE wq (.slice A8 rs.length c8) (rs.map fun (n : Nat) => (n : Int))) ∧ Hid (∀ b, v.ownBlock = some b → b < lo ∨ hi ≤ b) ∧ Hid (hi ≤ wq.heap.size)) (fun _ u _ => rs.length - (intOf u).toNat)
   case atStart => exact ⟨0, by omega, rfl, Hst, Hv8, Hob, Hhi⟩
   case round =>
    clear Hst Hv8 Hob Hhi
    obtain ⟨j, hj, rfl, Hst, Hv8, Hob, Hhi⟩ := hrel
    by_cases hjl : j < rs.length
    ·have hrj : rs[j] < g.length := Hrg.out _ (List.getElem_mem hjl)
     have htk := addN_take out rs hjl
     have hsub := addN_sub out (rs.take j) Hrng.out (fun i hi => Hrg.out i (List.mem_of_mem_take hi))
     have hol2 := nodup_le (addN_nodup out (rs.take j) Hnd.out) hsub
     obtain ⟨A', c', e', hc'⟩ := Sl.natF Hv8.out
     simp only [Value.slice.injEq] at e'
     obtain ⟨rfl, -, rfl⟩ := e'
     obtain ⟨b8, o8, rfl, hb8, k8⟩ := hc' j hjl
     have eD : rs.getD j 0 = rs[j] := by rw [List.getD_eq_getElem?_getD, List.getElem?_eq_getElem hjl]; rfl
     rw [eD] at k8
     have km := Hst.out.marks.cell rs[j] (by rw [marksL_length]; exact hrj)
     rw [marksL_getD _ hrj] at km
     have Hms := Lib.hid (marksL_set (addN (fun i => i) out (rs.take j)) hrj)
     obtain ⟨Ao, co, rfl⟩ := Hst.out.own.len
     rw [List.length_map] at Hst Hob ⊢
     have hsuc : addN (fun i => i) out (rs.take (j + 1)) = _ := htk
     generalize rs[j] = r at *
     generalize addN (fun i => i) out (rs.take j) = out1 at *
     have fm := Hst.out.marks.frozen r
     have lm := Hst.out.marks.lt
     have l8 := cell_lt k8
     have q0 : (0 : Int) ≤ (j : Int) := by omega
     have q1 : (j : Int) < (rs.length : Int) := by omega
     have q2 : (0 : Int) ≤ (r : Int) := by omega
     have q3 : (r : Int) < (g.length : Int) := by omega
     by_cases hm : r ∈ out1
     ·rw [if_pos hm] at hsuc
      rw [decide_eq_true hm] at km
      have Hsuc := Lib.hid hsuc
      clear hm hsuc htk hsub hc' eD
      go_wp2_with fail
      go_roundw
      case rel => exact ⟨j + 1, by omega, by go_num, by rw [Hsuc.out]; exact Hst, Hv8, Hob, Hhi⟩
      case measure => simp [intOf]; omega
     ·rw [if_neg hm] at hsuc
      rw [decide_eq_false hm] at km
      have Hsuc := Lib.hid hsuc
      clear hm hsuc htk hsub hc' eD
      go_upto_region 13 with fail
      have hne : b8 ≠ Bm := by have := hb8.1; have := HBl.out; omega
      have Hob1 := Lib.hid (show ∀ b, (Value.slice Ao out1.length co).ownBlock = some b → b ≠ Bm from fun b hb => by have := (Hst.out.own.lt b hb).1; omega)
      have hm2 := Hst.out.marks.set r true
      rw [Hms.out] at hm2
      have Hm2 := Lib.hid hm2
      have Hx2 := Lib.hid (Hst.out.ext.setCell (p := ⟨Bm, r, none⟩) Hst.out.nb (.bool true))
      have Hv82 := Lib.hid (show SlF (Btn lo hi) intE (wr.setCell ⟨Bm, r, none⟩ (.bool true)) (.slice (some ⟨b8, o8, none⟩) rs.length c8) (rs.map fun (n : Nat) => (n : Int)) from Hv8.out.mono (fun b hb _ => Below.heap_setCell _ _ _ _ (by have := hb.1; have := HBl.out; simp; omega)) (fun _ h _ => h))
      have k82 : (wr.setCell ⟨Bm, r, none⟩ (.bool true)).cell? ⟨b8, o8 + j, none⟩ = some (.int .i64 (r : Int)) := (World.cell?_of_block (w := wr) (a := ⟨b8, o8 + j, none⟩) (Below.heap_setCell _ _ _ _ (by simp; exact hne))).trans k8
      have Hown2 : Hid (Own (fun b => Bm < b) intE (wr.setCell ⟨Bm, r, none⟩ (.bool true)) (Bm + 1) 3 (.slice Ao out1.length co) (out1.map fun (n : Nat) => (n : Int))) := Lib.hid (Own.keptFlat flat_int Hst.out.own (row := some Bm) (grown_set _ _ _ _) (by
       cases e : (Value.slice Ao out1.length co).ownBlock with
       | none => exact .inl rfl
       | some b => exact .inr (fun h => Hob1.out b e (by injection h))))
      have Hhi2 := Lib.hid (show hi ≤ (wr.setCell ⟨Bm, r, none⟩ (.bool true)).heap.size by have := Hhi.out; simp; omega)
      have hnb := Hst.out.nb
      clear km fm lm k8 l8 hm2 Hst Hv8 Hhi
      generalize wr.setCell ⟨Bm, r, none⟩ (.bool true) = w9 at *
      have l8 := cell_lt k82
      have lm := Hm2.out.lt
      have Hrel : Hid (intE.rel (fun b => Bm < b ∧ some b ≠ (Value.slice Ao out1.length co).ownBlock) w9 (r : Int) [.int .i64 (r : Int)]) := Lib.hid rfl
      go_wp2_with (at_builtin; refine own_append2 (F := fun b => Bm < b) intE (Bm + 1) rfl (.tmp 52) (.tmp 57) 24 3 8 rfl slice24 _ _ (r : Int) _ rfl rfl Hown2.out Hrel.out ?c1 ?c2 ?c3 ?_)
      case c1 => omega
      case c2 => simp; omega
      case c3 => decide
      intro v5 w5 hown5 hg5 hob5
      have hsz5 := hg5.size
      have Hst5 : Hid (RRe w Bm g.length (addN (fun i => i) out (rs.take (j + 1))) v5 w5) := Lib.hid (by
       rw [Hsuc.out]
       exact ⟨Below.grown Hx2.out hg5 Hx2.out.size (fun b hb => by have := Hob1.out b hb; have := (Hown2.out.lt b hb).1; omega), (hg5.block Bm lm (fun e => Hob1.out _ e.symm rfl)).trans Hm2.out, by rw [List.map_append]; exact hown5, hnb⟩)
      have Hv85 := Lib.hid (show SlF (Btn lo hi) intE w5 (.slice (some ⟨b8, o8, none⟩) rs.length c8) (rs.map fun (n : Nat) => (n : Int)) from Hv82.out.mono (fun b hb hlt => hg5.block b hlt (fun e => by have h1 := Hob.out b e.symm; have := hb.1; have := hb.2; omega)) (fun _ h _ => h))
      have Hob5 := Lib.hid (show ∀ b, v5.ownBlock = some b → b < lo ∨ hi ≤ b from fun b hb => by
       rcases hob5 b hb with h | h
       ·exact Hob.out b h
       ·have := Hhi2.out; right; omega)
      have Hhi5 := Lib.hid (show hi ≤ w5.heap.size by have := Hhi2.out; omega)
      clear hown5 hg5 hob5 Hown2 Hv82 Hx2 Hm2 k82 l8 lm Hob Hob1 Hhi2
      go_wp2_with fail
      go_roundw
      case rel => exact ⟨j + 1, by omega, by go_num, Hst5, Hv85, Hob5, Hhi5⟩
      case measure => simp [intOf]; omega
    ·have hjn : j = rs.length := by omega
     subst hjn
     have q1 : ¬ ((rs.length : Nat) : Int) < (rs.length : Int) := by omega
     have hst := Hst.out
     rw [List.take_length] at hst
     have Hst1 := Lib.hid hst
     clear hst Hst Hv8 Hob Hhi
     go_wp2_with fail
     go_roundw
     case rel => exact ⟨k + 1, _, by go_num, Lib.hid ⟨Hstep.out, by rw [show g.length + 1 - (k + 1) = g.length - k by omega]; exact Hgo.out.symm⟩, Hst1⟩
     case measure => simp [intOf]; omega
  ·have hko : ¬ (k : Int) < (out.length : Int) := by omega
   have hfin := reachN_done (cls := fun i => i) (rf := refsN g) (f := g.length + 1 - k) (k := k) (out := out) (by omega)
   rw [hRe] at hfin
   have Hfin := Lib.hid hfin
   clear hfin hI hRe HI hsv
   go_wp2_with fail
   go_ret
   exact ⟨_, rfl, ⟨Bm, rfl, by rw [Hfin.out]; exact Hst.out.marks⟩, Hst.out.ext⟩
end Go.Proofs.YtldnjnnhfeobdaaGreatDoor
/- Plain law: what is reached, sorted; two graphs side by side. No program. No condition. -/
namespace Go.Proofs.YtldnjnnhfeobdaaGreatDoor
open Go.RowKit
/-- what ways lead to from a type, in the order in which it is met -/
def metN (g : Graph) (a : Nat) : List Nat := reachN (fun i => i) (refsN g) (g.length + 1) 0 [a]
/-- the same, in order -/
def reachedN (g : Graph) (a : Nat) : List Nat := (List.range g.length).filter fun i => decide (i ∈ metN g a)
def reachI (g : Graph) (a : Int) : List Int := if errG g [a] = 0 then (reachedN g a.toNat).map fun (n : Nat) => (n : Int) else []
theorem met_inv {g : Graph} (hW : WF g) {a : Nat} (ha : a < g.length) : RInv g.length (fun i => i) (refsN g) a (metN g a).length (metN g a) := by
 refine reachN_inv (fun i hi => hi) (fun i hi r hr => ?_) (g.length + 1) 0 [a] (RInv.init ha) (by omega)
 obtain ⟨q, hq, rfl⟩ := List.mem_map.1 hr
 have := (hW.fine (getT_mem hi)).refs q hq
 omega
theorem met_nodup {g : Graph} (hW : WF g) {a : Nat} (ha : a < g.length) : (metN g a).Nodup := by
 have := (met_inv hW ha).nodup
 simpa using this
theorem met_len {g : Graph} (hW : WF g) {a : Nat} (ha : a < g.length) : (metN g a).length ≤ g.length := (met_inv hW ha).len (fun i hi => hi)
theorem met_sorted {g : Graph} (hW : WF g) {a : Nat} (ha : a < g.length) :
  (((metN g a).map fun (n : Nat) => (n : Int)).mergeSort fun x y => decide (x ≤ y)) = (reachedN g a).map fun (n : Nat) => (n : Int) := by
 have tr : ∀ a b c : Int, decide (a ≤ b) = true → decide (b ≤ c) = true → decide (a ≤ c) = true := fun a b c h1 h2 => by simp only [decide_eq_true_eq] at *; omega
 have tot : ∀ a b : Int, (decide (a ≤ b) || decide (b ≤ a)) = true := fun a b => by simp only [Bool.or_eq_true, decide_eq_true_eq]; omega
 have hlt : ((reachedN g a).map fun (n : Nat) => (n : Int)).Pairwise (· < ·) := by
  refine List.pairwise_map.2 ?_
  unfold reachedN
  refine (List.pairwise_lt_range.filter _).imp fun {p q} h => ?_
  omega
 have hnd : ((metN g a).map fun (n : Nat) => (n : Int)).Nodup := by
  rw [List.nodup_iff_pairwise_ne, List.pairwise_map]
  have := met_nodup hW ha
  rw [List.nodup_iff_pairwise_ne] at this
  exact this.imp fun {p q} h e => h (by omega)
 refine List.Perm.eq_of_pairwise (le := fun a b => decide (a ≤ b) = true) (fun a b _ _ h1 h2 => by simp only [decide_eq_true_eq] at h1 h2; omega) (List.pairwise_mergeSort tr tot _) (hlt.imp fun {a b} h => by simp only [decide_eq_true_eq]; omega) ((List.mergeSort_perm _ _).trans ?_)
 refine (List.perm_ext_iff_of_nodup hnd (hlt.imp fun {a b} h => by omega)).2 fun x => ?_
 unfold reachedN
 simp only [List.mem_map, List.mem_filter, List.mem_range, decide_eq_true_eq]
 exact ⟨fun ⟨i, hi, e⟩ => ⟨i, ⟨(met_inv hW ha).rng i hi, hi⟩, e⟩, fun ⟨i, hi, e⟩ => ⟨i, hi.2, e⟩⟩
theorem reachI_len {g : Graph} (h : Tidy g) (a : Int) : (reachI g a).length ≤ 1048576 := by
 unfold reachI reachedN
 split
 ·rw [List.length_map]
  have := List.length_filter_le (fun i => decide (i ∈ metN g a.toNat)) (List.range g.length)
  rw [List.length_range] at this
  have := h.len
  omega
 ·simp
/-! ### two graphs side by side -/
def joinE (g h : Graph) : Int := if errG g [] = 0 ∧ errG h [] = 0 then (if 400 < g.length + h.length then 2 else 0) else 30
def joinG (g h : Graph) : Graph := if joinE g h = 0 then g.map (turnT fun x => x) ++ h.map (turnT fun x => x + (g.length : Int)) else []
theorem tidy_map {f : Int → Int} {g : Graph} (h : Tidy g) : ∀ t ∈ g.map (turnT f), TySmall t ∧ 0 ≤ t.kind ∧ t.kind ≤ 255 := fun t ht => by
 obtain ⟨q, hq, rfl⟩ := List.mem_map.1 ht
 exact ⟨small_turn (h.ty q hq).1, (h.ty q hq).2⟩
theorem tidy_join {g h : Graph} (hg : Tidy g) (hh : Tidy h) : Tidy (joinG g h) := by
 unfold joinG
 split
 ·rename_i h0
  unfold joinE at h0
  refine ⟨?_, fun t ht => ?_⟩
  ·rw [List.length_append, List.length_map, List.length_map]
   split at h0
   ·split at h0
    ·omega
    ·omega
   ·omega
  ·rcases List.mem_append.1 ht with ht | ht
   ·exact tidy_map hg t ht
   ·exact tidy_map hh t ht
 ·exact ⟨by simp, fun t ht => by cases ht⟩
def ownI (n : Nat) : List Int := (List.range n).map fun (i : Nat) => (i : Int)
def moreI (n m : Nat) : List Int := (List.range m).map fun (i : Nat) => ((n + i : Nat) : Int)
theorem own_turn {g : Graph} (hW : WF g) {i : Nat} (hi : i < g.length) : turnT (lookI (ownI g.length)) (getT g i) = turnT (fun x => x) (getT g i) := by
 refine turnT_congr fun r hr => ?_
 obtain ⟨h0, h1⟩ := (hW.fine (getT_mem hi)).refs r hr
 obtain ⟨k, rfl⟩ := Int.eq_ofNat_of_zero_le h0
 unfold lookI ownI
 rw [Int.toNat_natCast, List.getD_eq_getElem?_getD, List.getElem?_map, List.getElem?_range (by omega)]
 rfl
theorem more_turn {h : Graph} (hW : WF h) (n : Nat) {i : Nat} (hi : i < h.length) : turnT (lookI (moreI n h.length)) (getT h i) = turnT (fun x => x + (n : Int)) (getT h i) := by
 refine turnT_congr fun r hr => ?_
 obtain ⟨h0, h1⟩ := (hW.fine (getT_mem hi)).refs r hr
 obtain ⟨k, rfl⟩ := Int.eq_ofNat_of_zero_le h0
 unfold lookI moreI
 rw [Int.toNat_natCast, List.getD_eq_getElem?_getD, List.getElem?_map, List.getElem?_range (by omega)]
 simp only [Option.map_some, Option.getD_some]
 omega
end Go.Proofs.YtldnjnnhfeobdaaGreatDoor
/- Contract: Reach. Conditions: a tidy graph. -/
namespace Go.Proofs.YtldnjnnhfeobdaaGreatDoor
open Go.RowKit Go.Shelf
def ReachPost (w : World) (g : Graph) (a : Int) (e : Ending) (w' : World) : Prop :=
 ∃ v, e = .returned (.tuple #[v, .int .i64 (errG g [a])]) ∧ Sl intE w' v (reachI g a) ∧ Ext w w'
theorem same88 (w : World) (n : Nat) : SameP w 88 #[] (fun i => i) n :=
 ⟨enters_of Tryz.func88 (by kernel_rfl) rfl, fun i hi w' hx => by
  show Calls Tryz.prog 88 #[.int .i64 (i : Int)] w' (fun e w'' => e = .returned (.int .i64 (i : Nat)) ∧ w'' = w')
  clear hi hx
  go_enter Tryz.func88, Tryz.ntmps88
  go_wp2_with fail
  go_ret
  exact ⟨rfl, rfl⟩⟩
/-- what is sorted lies in the same block, and all else lies as it lay -/
theorem sorted_any (w : World) (base : Nat) (v : Value) (l : List Nat) (h : w.ownsRow base 3 1 v l.length (i64V l)) (h0 : l ≠ []) (hl : l.length ≤ 1048576) :
  Calls Tryz.prog 89 #[v] w (fun e w' => e = .returned (.tuple #[]) ∧ w'.ownsRow base 3 1 v l.length (((l.map fun (n : Nat) => (n : Int)).mergeSort fun x y => decide (x ≤ y)).map (Value.int .i64)) ∧ w.grownBy w' v.ownBlock) := by
 have hi64 : i64V l = (l.map fun (n : Nat) => (n : Int)).map (Value.int .i64) := by unfold i64V; rw [List.map_map]; rfl
 rcases h.2 with ⟨rfl, h1⟩ | ⟨gr, cap, cur, rfl, hg, hgb, h2, h3, h4, h5⟩
 ·exact absurd (List.eq_nil_of_length_eq_zero h1) h0
 ·have hlt : gr < w.heap.size := (Array.getElem?_eq_some_iff.1 hgb).1
  have hll : (l.map fun (n : Nat) => (n : Int)).length = l.length := by simp
  have ht : cur.toList.take (l.map fun (n : Nat) => (n : Int)).length = (l.map fun (n : Nat) => (n : Int)).map (Value.int .i64) := by
   rw [← hi64, hll]; simpa using h5
  have hh := holds_of_blockI hgb ht
  have hs := Tryz.slices_Sort_int gr 0 cap (l.map fun (n : Nat) => (n : Int)) w hh hlt (by rw [hll]; omega)
  rw [hll] at hs
  refine hs.mono ?_
  rintro e w' ⟨rfl, n, os, rfl⟩
  refine ⟨rfl, ?_, grownBy_sortedI _⟩
  have := ownsRow_sortedI (w := w) (base := base) (g := gr) (cap := cap) (n := n) (e := 3) (os := os) (cur := cur) (ss := l.map fun (n : Nat) => (n : Int)) (ts := (l.map fun (n : Nat) => (n : Int)).mergeSort fun x y => decide (x ≤ y)) (by simp) hg hgb (by rw [hll]; exact h2) h3 h4
  rwa [hll] at this
set_option maxRecDepth 100000 in
set_option maxHeartbeats 4000000 in
theorem Reach_any (w : World) (gv : Value) (g : Graph) (a : Int) (hg : Sl tyE w gv g) (hT : Tidy g) (hG : Glob w) :
  Calls Tryz.prog 42 #[gv, .int .i64 a] w (ReachPost w g a) := by
 have hop := opened_any (w.alloc (.cells #[.int .i64 a] 3)) gv _ g [a] (hg.mono ((Ext.refl w).alloc _)) hT (hG.mono ((Ext.refl w).alloc _)) (lit_ints w [a] 1 rfl) (by simp)
 have hn := hT.len
 unfold ReachPost
 by_cases h0 : errG g [a] = 0
 ·rw [h0] at hop ⊢
  obtain ⟨hW, hab⟩ := errG_zero h0
  obtain ⟨a0, a1⟩ := hab a (by simp)
  obtain ⟨i, rfl⟩ := Int.eq_ofNat_of_zero_le a0
  have hi : i < g.length := by omega
  have hre := fun (w' : World) (hx : Ext w w') => (callsIn_wide (n := 6)).1 (reach_in w' gv g i 88 #[] (fun i => i) (hg.mono hx) hn hW hi (fun i hi => hi) (same88 w' _))
  have hms := met_sorted hW hi
  have hml := met_len hW hi
  have hne : metN g i ≠ [] := by
   have := (met_inv hW hi).start
   intro e
   rw [e] at this
   simp at this
  have hri : reachI g (i : Int) = (reachedN g i).map fun (n : Nat) => (n : Int) := by unfold reachI; rw [if_pos h0, Int.toNat_natCast]
  rw [hri]
  change ∀ w', Ext w w' → Calls _ _ _ _ (fun e W' => ∃ v, e = .returned v ∧ W'.ownsRow w'.heap.size 3 1 v (metN g i).length (i64V (metN g i)) ∧ Ext w' W') at hre
  have hso := fun (w' : World) (base : Nat) (v : Value) (h : w'.ownsRow base 3 1 v (metN g i).length (i64V (metN g i))) => sorted_any w' base v (metN g i) h hne (by omega)
  rw [hms] at hso
  obtain ⟨A, cap, rfl⟩ := hg.len
  generalize metN g i = l at *
  generalize hrl : (reachedN g i).map (fun (n : Nat) => (n : Int)) = rl at *
  have hlen : rl.length = l.length := by rw [← hms]; simp
  have Hlen := Lib.hid hlen
  have Hop := Lib.hid hop
  have Hre := Lib.hid hre
  have Hso := Lib.hid hso
  clear hop hre hso hg hT hG h0 hab hW hms hri hrl hne hlen
  go_enter Tryz.func42, Tryz.ntmps42
  go_wp2_with fail
  refine Hop.out.mono ?_
  rintro e w1 ⟨rfl, hx1⟩
  have Hx1 := Lib.hid ((((Ext.refl w).alloc (.cells #[.int .i64 i] 3)).trans hx1).alloc (.cells #[.slice A g.length cap] 77))
  clear hx1
  go_wp2_with fail
  refine (Hre.out _ Hx1.out).mono ?_
  rintro e w2 ⟨v, rfl, hv, hx2⟩
  have Hx2 := Lib.hid (Hx1.out.trans hx2)
  have hsl := hv
  have Hv := Lib.hid hv
  have hcase := hv.2
  have Hbase := Lib.hid Hx1.out.size
  generalize (w1.alloc (.cells #[.slice A g.length cap] 77)).heap.size = base at *
  have Hlt := Lib.hid (show ∀ b, v.ownBlock = some b → base ≤ b from fun b hb => (hv.lt b hb).1)
  clear hv hx2 hsl hcase
  go_wp2_with fail
  refine (Hso.out _ _ _ Hv.out).mono ?_
  rintro e w3 ⟨rfl, hv3, hg3⟩
  have Hx3 := Lib.hid (show Ext w w3 from Below.grown Hx2.out hg3 Hx2.out.size (fun b hb => by have := Hlt.out b hb; have := Hbase.out; omega))
  have Hv3 := Lib.hid hv3
  clear hv3 hg3
  go_wp2_with fail
  go_ret2
  refine ⟨v, rfl, ?_, Hx3.out⟩
  have h := Hv3.out
  rw [← Hlen.out] at h
  rcases h.2 with ⟨rfl, h1⟩ | ⟨gr, cp, cur, rfl, hg, hgb, h2, h3, h4, h5⟩
  ·have : rl = [] := List.eq_nil_of_length_eq_zero h1
   rw [this]; exact Sl.nil _ _
  ·refine ⟨_, cp, rfl, fun k x hk => ⟨gr, 0, [.int .i64 x], rfl, ⟨trivial, h2⟩, rfl, fun j u hj => ?_⟩⟩
   cases j with
   | succ j => simp at hj
   | zero =>
    simp at hj
    subst hj
    have hc := h.cells (g := gr) rfl k (.int .i64 x) (by simp [hk])
    rw [Addr.add_lit, Nat.zero_add] at hc
    simpa [intE] using hc
 ·have e : reachI g a = [] := by unfold reachI; rw [if_neg h0]
  rw [e]
  have hne : (errG g [a] != 0) = true := by simpa using h0
  obtain ⟨A, cap, rfl⟩ := hg.len
  generalize errG g [a] = er at hop hne ⊢
  have Hop := Lib.hid hop
  clear hop hg hT hG h0 e
  go_enter Tryz.func42, Tryz.ntmps42
  go_wp2_with fail
  refine Hop.out.mono ?_
  rintro e w1 ⟨rfl, hx1⟩
  go_wp2_with fail
  go_ret2
  exact ⟨_, rfl, Sl.nil _ _, (((Ext.refl w).alloc _).trans hx1).alloc _⟩
end Go.Proofs.YtldnjnnhfeobdaaGreatDoor
/- Contract of the reference: Reach. Conditions: a tidy graph. -/
namespace Go.Proofs.YtldnjnnhfeobdaaGreatDoor
open Go.RowKit Go.Shelf
theorem filter_next (p : Nat → Bool) (k : Nat) : (List.range (k + 1)).filter p = (List.range k).filter p ++ if p k then [k] else [] := by
 rw [List.range_succ, List.filter_append]
 congr 1
 by_cases h : p k = true
 ·simp [h]
 ·simp [h]
set_option maxRecDepth 100000 in
set_option maxHeartbeats 8000000 in
theorem rReach_any (w : World) (gv : Value) (g : Graph) (a : Int) (hg : Sl tyE w gv g) (hT : Tidy g) :
  Calls Tryz.prog 43 #[gv, .int .i64 a] w (ReachPost w g a) := by
 have hop := rchecked_any (w.alloc (.cells #[.int .i64 a] 3)) gv _ g [a] (hg.mono ((Ext.refl w).alloc _)) hT (lit_ints w [a] 1 rfl) (by simp)
 have hn := hT.len
 unfold ReachPost
 by_cases h0 : errG g [a] = 0
 ·rw [h0] at hop ⊢
  obtain ⟨hW, hab⟩ := errG_zero h0
  obtain ⟨a0, a1⟩ := hab a (by simp)
  obtain ⟨i, rfl⟩ := Int.eq_ofNat_of_zero_le a0
  have hi : i < g.length := by omega
  have hre := fun (w' : World) (hx : Ext w w') => rreach_any w' gv g i (hg.mono hx) hT hW hi
  change ∀ w', Ext w w' → Calls _ _ _ _ (RetP w' (fun w'' v => ∃ b, v = .slice (some ⟨b, 0, none⟩) g.length g.length ∧ BoolRow w'' b (marksL g.length (metN g i)))) at hre
  have hri : reachI g (i : Int) = ((List.range g.length).filter fun k => decide (k ∈ metN g i)).map fun (n : Nat) => (n : Int) := by unfold reachI reachedN; rw [if_pos h0, Int.toNat_natCast]
  rw [hri]
  obtain ⟨A, cap, rfl⟩ := hg.len
  generalize metN g i = l at *
  have Hop := Lib.hid hop
  have Hre := Lib.hid hre
  clear hop hre hg hT h0 hab hW hri
  go_enter Tryz.func43, Tryz.ntmps43
  go_wp2_with fail
  refine Hop.out.mono ?_
  rintro e w1 ⟨rfl, hx1⟩
  have Hx1 := Lib.hid (((Ext.refl w).alloc (.cells #[.int .i64 i] 3)).trans hx1)
  clear hx1
  go_wp2_with fail
  refine (Hre.out _ Hx1.out).mono ?_
  rintro e w2 ⟨v, rfl, ⟨Bm, rfl, hm⟩, hx2⟩
  have Hx2 := Lib.hid (Hx1.out.trans hx2)
  have Hm := Lib.hid hm
  clear hm hx2
  go_wp2_with fail
  go_loopw [8, 9] (fun o u wr => ∃ k : Nat, k ≤ g.length ∧ u = .int .i64 k ∧ Hid (Ext w2 wr) ∧ Hid (Own Any intE wr w2.heap.size 3 o (((List.range k).filter fun q => decide (q ∈ l)).map fun (n : Nat) => (n : Int)))) (fun _ u _ => g.length - (intOf u).toNat)
  case atStart => exact ⟨0, by omega, rfl, Lib.hid (Ext.refl _), Lib.hid (Own.nil _ _ _ _ _)⟩
  case round =>
   obtain ⟨k, hk, rfl, Hx, Hown⟩ := hrel
   by_cases hlt : k < g.length
   ·have c0 := (Hm.out.ext Hx.out).cell k (by rw [marksL_length]; exact hlt)
    rw [marksL_getD _ hlt] at c0
    have l0 := cell_lt c0
    have j0 : (0 : Int) ≤ (k : Int) := by omega
    have j1 : (k : Int) < (g.length : Int) := by omega
    have hnx := filter_next (fun q => decide (q ∈ l)) k
    have hfl := List.length_filter_le (fun q => decide (q ∈ l)) (List.range k)
    rw [List.length_range] at hfl
    by_cases hkl : k ∈ l
    ·rw [decide_eq_true hkl] at c0
     rw [if_pos (decide_eq_true hkl)] at hnx
     have Hnx := Lib.hid hnx
     clear hnx
     generalize hL : (List.range k).filter (fun q => decide (q ∈ l)) = L at *
     clear hL
     have Hsz := Lib.hid Hx.out.size
     have Hrel : Hid (intE.rel (fun b => Any b ∧ some b ≠ u8.ownBlock) wr (k : Int) [.int .i64 (k : Int)]) := Lib.hid rfl
     go_wp2_with (at_builtin; refine own_append (F := Any) intE w2.heap.size rfl (.tmp 30) (.tmp 32) 24 3 8 rfl slice24 _ _ (k : Int) _ rfl rfl Hown.out Hrel.out ?c1 ?c2 ?c3 ?_)
     case c1 => exact Hsz.out
     case c2 => simp; omega
     case c3 => decide
     intro v5 w5 hown5 hg5
     have Hx5 := Lib.hid (show Ext w2 w5 from Below.grown Hx.out hg5 Hsz.out (fun b hb => (Hown.out.lt b hb).1))
     have Hown5 : Hid (Own Any intE w5 w2.heap.size 3 v5 (((List.range (k + 1)).filter fun q => decide (q ∈ l)).map fun (n : Nat) => (n : Int))) := Lib.hid (by rw [Hnx.out, List.map_append]; exact hown5)
     clear hown5 hg5 Hown c0 l0
     go_wp2_with fail
     go_roundw
     case rel => exact ⟨k + 1, by omega, by go_num, Hx5, Hown5⟩
     case measure => simp [intOf]; omega
    ·rw [decide_eq_false hkl] at c0
     rw [if_neg (by simpa using hkl), List.append_nil] at hnx
     have Hnx := Lib.hid hnx
     clear hnx
     go_wp2_with fail
     go_roundw
     case rel => exact ⟨k + 1, by omega, by go_num, Hx, by rw [Hnx.out]; exact Hown⟩
     case measure => simp [intOf]; omega
   ·have hkn : k = g.length := by omega
    subst hkn
    have j1 : ¬ ((g.length : Nat) : Int) < (g.length : Int) := by omega
    have Hsl := Lib.hid ((Hown.out.sl (F := Any) (fun _ _ => trivial)).any)
    go_wp2_with fail
    go_ret2
    exact ⟨_, rfl, Hsl.out, Hx2.out.trans Hx.out⟩
 ·have e : reachI g a = [] := by unfold reachI; rw [if_neg h0]
  rw [e]
  have hne : (errG g [a] != 0) = true := by simpa using h0
  obtain ⟨A, cap, rfl⟩ := hg.len
  generalize errG g [a] = er at hop hne ⊢
  have Hop := Lib.hid hop
  clear hop hg hT h0 e
  go_enter Tryz.func43, Tryz.ntmps43
  go_wp2_with fail
  refine Hop.out.mono ?_
  rintro e w1 ⟨rfl, hx1⟩
  go_wp2_with fail
  go_ret2
  exact ⟨_, rfl, Sl.nil _ _, ((Ext.refl w).alloc _).trans hx1⟩
end Go.Proofs.YtldnjnnhfeobdaaGreatDoor
/- A graph that the call itself lays, type by type: rows of ten cells in one block. No condition. -/
namespace Go.Proofs.YtldnjnnhfeobdaaGreatDoor
open Go.RowKit Go.Shelf
def setL : List Value → Nat → List Value → List Value
 | L, _, [] => L
 | L, o, v :: vs => setL (L.set o v) (o + 1) vs
theorem setL_at : ∀ (vs A B : List Value), vs.length ≤ B.length → setL (A ++ B) A.length vs = A ++ (vs ++ B.drop vs.length)
 | [], A, B, _ => by simp [setL]
 | v :: vs, A, [], h => by simp at h
 | v :: vs, A, b :: B, h => by
  unfold setL
  have e : (A ++ b :: B).set A.length v = (A ++ [v]) ++ B := by simp
  have h2 := setL_at vs (A ++ [v]) B (by simpa using h)
  rw [e, show A.length + 1 = (A ++ [v]).length by simp, h2]
  simp
theorem heap_setCells {b : Nat} {ty : TypeId} {fr : Nat × Nat} : ∀ (vs : List Value) (o : Nat) (w : World) (L : List Value), w.heap[b]? = some (.cells L.toArray ty fr) → (w.setCells b o vs).heap[b]? = some (.cells (setL L o vs).toArray ty fr)
 | [], o, w, L, h => h
 | v :: vs, o, w, L, h => by
  have h1 := heap_set h o v
  rw [List.setIfInBounds_toArray] at h1
  exact heap_setCells vs (o + 1) _ _ h1
theorem flatten_set {k : Nat} : ∀ (rows : List (List Value)) (j : Nat) (r : List Value), (∀ s ∈ rows, s.length = k) → j < rows.length → (rows.set j r).flatten = rows.flatten.take (j * k) ++ (r ++ rows.flatten.drop (j * k + k))
 | [], j, r, _, h => by simp at h
 | s :: rows, 0, r, hk, _ => by
  have hs : s.length = k := hk s (by simp)
  simp [← hs]
 | s :: rows, j + 1, r, hk, h => by
  have hs : s.length = k := hk s (by simp)
  have ih := flatten_set rows j r (fun x hx => hk x (by simp [hx])) (by simpa using h)
  rw [List.set_cons_succ, List.flatten_cons, ih, List.flatten_cons]
  have e1 : (j + 1) * k = s.length + j * k := by rw [hs, Nat.add_mul]; omega
  rw [e1, List.take_length_add_append, Nat.add_assoc, List.drop_length_add_append]
  simp
/-- block b begins with the rows of the types -/
def TyRow (F : Nat → Prop) (w : World) (b : Nat) (xs : List Ty) : Prop :=
 ∃ rows rest : List (List Value), rows.length = xs.length ∧ w.heap[b]? = some (.cells (rows.flatten ++ rest.flatten).toArray 42 (0, 0)) ∧
  ∀ (i : Nat) (x : Ty) (r : List Value), xs[i]? = some x → rows[i]? = some r → tyE.rel (fun c => F c ∧ c ≠ b) w x r
section
variable {F : Nat → Prop} {w w' : World} {b : Nat} {xs : List Ty}
theorem TyRow.lt (h : TyRow F w b xs) : b < w.heap.size := by
 obtain ⟨rows, rest, _, hb, _⟩ := h
 exact (Array.getElem?_eq_some_iff.1 hb).1
theorem TyRow.ext (h : TyRow F w b xs) (hx : Ext w w') : TyRow F w' b xs := by
 obtain ⟨rows, rest, hl, hb, hr⟩ := h
 exact ⟨rows, rest, hl, hx.heap hb, fun i x r h1 h2 => Elt.ext (hr i x r h1 h2) hx⟩
theorem TyRow.other (h : TyRow F w b xs) {b' : Nat} (hne : b ≠ b') (hF : ∀ c, F c → c ≠ b') (i : Nat) (v : Value) : TyRow F (w.setCell ⟨b', i, none⟩ v) b xs := by
 obtain ⟨rows, rest, hl, hb, hr⟩ := h
 exact ⟨rows, rest, hl, (Below.heap_setCell _ _ _ _ hne).trans hb, fun i x r h1 h2 => tyE.mono _ _ _ _ _ _ (fun c hc _ => Below.heap_setCell _ _ _ _ (hF c hc.1)) (fun _ h _ => h) (hr i x r h1 h2)⟩
theorem TyRow.rowlen {rows : List (List Value)} (hl : rows.length = xs.length) (hr : ∀ (i : Nat) (x : Ty) (r : List Value), xs[i]? = some x → rows[i]? = some r → tyE.rel (fun c => F c ∧ c ≠ b) w x r) : ∀ r ∈ rows, r.length = 10 := by
 intro r hm
 obtain ⟨i, hi, rfl⟩ := List.mem_iff_getElem.1 hm
 exact tyE.len _ _ _ _ (hr i (xs[i]'(by omega)) rows[i] (List.getElem?_eq_getElem (by omega)) (List.getElem?_eq_getElem hi))
theorem TyRow.frozen (h : TyRow F w b xs) (i : Nat) : w.frozen? ⟨b, i, none⟩ = false := by
 obtain ⟨rows, rest, _, hb, _⟩ := h
 exact heap_frozen hb i
theorem TyRow.at (h : TyRow F w b xs) {j : Nat} (hj : j < xs.length) : ∃ r, tyE.rel (fun c => F c ∧ c ≠ b) w xs[j] r ∧ ∀ i u, r[i]? = some u → w.cell? ⟨b, j * 10 + i, none⟩ = some u := by
 obtain ⟨rows, rest, hl, hb, hr⟩ := h
 have hk := TyRow.rowlen hl hr
 have hrow : rows[j]? = some (rows[j]'(by omega)) := List.getElem?_eq_getElem (by omega)
 refine ⟨_, hr j _ _ (List.getElem?_eq_getElem hj) hrow, fun i u hi => heap_cell hb _ _ ?_⟩
 have hf := flatten_get rows hk j i _ u hrow hi
 rw [List.getElem?_toArray, List.getElem?_append_left (List.getElem?_eq_some_iff.1 hf).1]
 exact hf
theorem TyRow.slF (h : TyRow F w b xs) (hF : F b) {cap : Nat} (hcap : xs.length ≤ cap) : SlF F tyE w (.slice (some ⟨b, 0, none⟩) xs.length cap) xs := by
 refine ⟨_, cap, rfl, fun i x hi => ?_⟩
 have hlt : i < xs.length := (List.getElem?_eq_some_iff.1 hi).1
 obtain ⟨r, hr, hc⟩ := h.at hlt
 have hx : xs[i] = x := (List.getElem?_eq_some_iff.1 hi).2
 rw [hx] at hr
 exact ⟨b, 0, r, rfl, ⟨hF, hcap⟩, tyE.mono _ _ _ _ _ _ (fun _ _ _ => rfl) (fun _ h _ => h.1) hr, fun j u hj => by rw [Nat.zero_add]; exact hc j u hj⟩
theorem TyRow.set (h : TyRow F w b xs) {j : Nat} (hj : j < xs.length) {y : Ty} {cs : List Value} (hy : tyE.rel (fun c => F c ∧ c ≠ b) w y cs) : TyRow F (w.setCells b (j * 10) cs) b (xs.set j y) := by
 obtain ⟨rows, rest, hl, hb, hr⟩ := h
 have hk := TyRow.rowlen hl hr
 have hcs : cs.length = 10 := tyE.len _ _ _ _ hy
 have hlen := flatten_len rows hk
 have keep : ∀ x r, tyE.rel (fun c => F c ∧ c ≠ b) w x r → tyE.rel (fun c => F c ∧ c ≠ b) (w.setCells b (j * 10) cs) x r := fun x r hx =>
  tyE.mono _ _ _ _ _ _ (fun c hc hlt => (setCells_grown b cs (j * 10) w).block c hlt (by intro e; injection e with e; exact hc.2 e)) (fun _ h _ => h) hx
 refine ⟨rows.set j cs, rest, by simp [hl], ?_, fun i x r h1 h2 => ?_⟩
 ·have hle : j * 10 + 10 ≤ rows.flatten.length := by rw [hlen]; omega
  have h2 := heap_setCells cs (j * 10) w _ hb
  have e : setL (rows.flatten ++ rest.flatten) (j * 10) cs = (rows.set j cs).flatten ++ rest.flatten := by
   have h3 := setL_at cs (rows.flatten.take (j * 10)) (rows.flatten.drop (j * 10) ++ rest.flatten) (by rw [hcs, List.length_append, List.length_drop]; omega)
   rw [← List.append_assoc, List.take_append_drop, List.length_take, Nat.min_eq_left (by omega)] at h3
   rw [h3, flatten_set rows j cs hk (by omega), hcs, List.drop_append_of_le_length (by rw [List.length_drop]; omega), List.drop_drop]
   simp
  rw [e] at h2
  exact h2
 ·by_cases hij : i = j
  ·subst hij
   rw [List.getElem?_set_self (by omega)] at h1 h2
   injection h1 with h1
   injection h2 with h2
   subst h1 h2
   exact keep _ _ hy
  ·rw [List.getElem?_set_ne (fun e => hij e.symm)] at h1 h2
   exact keep _ _ (hr i x r h1 h2)
end
/-! ### made of nothing -/
def zeroRow : List Value := [.int .u8 0, .int .i64 0, .int .i64 0, .bool false, .string ⟨#[]⟩, .string ⟨#[]⟩, .int .i64 0, .slice none 0 0, .slice none 0 0, .slice none 0 0]
def zeroTys (n : Nat) : Obj := .cells (List.replicate n zeroRow).flatten.toArray 42
theorem TyRow.made (F : Nat → Prop) (w : World) (n : Nat) : TyRow F (w.alloc (zeroTys n)) w.heap.size (List.replicate n ty0) := by
 refine ⟨List.replicate n zeroRow, [], by simp, by rw [List.flatten_nil, List.append_nil]; exact heap_alloc_self w _, fun i x r h1 h2 => ?_⟩
 rw [List.getElem?_replicate] at h1 h2
 split at h1
 ·rename_i hi
  rw [if_pos hi] at h2
  injection h1 with h1
  injection h2 with h2
  subst h1 h2
  exact ⟨_, _, _, rfl, SlF.nil _ _ _, SlF.nil _ _ _, SlF.nil _ _ _⟩
 ·cases h1
end Go.Proofs.YtldnjnnhfeobdaaGreatDoor
/- append of a whole slice whose elements refer to other memory, at a step of a region that draws its order. No condition. -/
namespace Go.Proofs.YtldnjnnhfeobdaaGreatDoor
open Go.RowKit Go.Shelf
theorem run_append_sl {P : Program} {α : Type} {F G : Nat → Prop} (E : Elt α) {W : World} (base : Nat) (t ty e : TypeId) (bytes : Nat) (hI : SliceOf P t e E.k bytes)
  (v : Value) (xs ys : List α) (ad : Addr) (n c : Nat) (HO : Own F E W base e v xs) (hy : SlF G E W (.slice (some ad) n c) ys) (hG : ∀ b, G b → b < W.heap.size → F b ∧ some b ≠ v.ownBlock)
  (hbase : base ≤ W.heap.size) (hl : (xs.length + ys.length) * bytes ≤ 140737488355328) (hb0 : 0 < bytes) :
  ∃ v1 w1, (Builtin.append_ #[t, t] ty #[v, .slice (some ad) n c]).run P W = .ok v1 w1 ∧ Own F E w1 base e v1 (xs ++ ys) ∧ W.grownBy w1 v.ownBlock ∧ (v1.ownBlock = v.ownBlock ∨ v1.ownBlock = some W.heap.size) := by
 obtain ⟨i, z, hi, hz, hsz, hby, hzs⟩ := hI.info
 obtain ⟨rows, hrl, hown, hr⟩ := HO
 obtain ⟨A, c', hA, hy⟩ := hy
 injection hA with hA hn hc
 subst hA hn hc
 obtain ⟨rows2, hl2, hr2⟩ := list_choose (β := List Value) ys.length (fun i r => ∃ y, ys[i]? = some y ∧ E.rel G W y r ∧ ∀ j u, r[j]? = some u → W.cell? (ad.add (i * E.k + j)) = some u) (fun i hi => by
  obtain ⟨b, off, cs, hA, _, hrel, hcell⟩ := hy i ys[i] (List.getElem?_eq_getElem hi)
  injection hA with hA
  subst hA
  exact ⟨cs, ys[i], List.getElem?_eq_getElem hi, hrel, fun j u hj => by rw [Addr.add_lit, ← Nat.add_assoc]; exact hcell j u hj⟩)
 have hk : ∀ r ∈ rows2, r.length = E.k := by
  intro r hm
  obtain ⟨i, hi, rfl⟩ := List.mem_iff_getElem.1 hm
  obtain ⟨y, _, hrel, _⟩ := hr2 i _ (List.getElem?_eq_getElem hi)
  exact E.len _ _ _ _ hrel
 have hlen : xs.length + ys.length ≤ 140737488355328 := Nat.le_trans (Nat.le_mul_of_pos_right _ hb0) hl
 obtain ⟨v1, w1, hrun, h2, h3, _, h5⟩ := run_append_own_at (P := P) W base t ty e i z E.k bytes hI.under hi hz hsz hby hzs E.pos v xs.length rows.flatten hown ad ys.length c rows2.flatten (by rw [flatten_len _ hk, hl2])
  (fun j u hj => by
   obtain ⟨r, h1, h2⟩ := flatten_inv E.pos rows2 hk j u hj
   obtain ⟨y, _, _, hcell⟩ := hr2 _ _ h1
   have := hcell _ _ h2
   rwa [Nat.div_add_mod'] at this)
  (fun u hu => by
   obtain ⟨r, hm, hu⟩ := List.mem_flatten.1 hu
   obtain ⟨i, hi, rfl⟩ := List.mem_iff_getElem.1 hm
   obtain ⟨y, _, hrel, _⟩ := hr2 i _ (List.getElem?_eq_getElem hi)
   exact E.one _ _ _ _ hrel u hu) (by simp only [maxLen]; omega) hl hbase
 refine ⟨v1, w1, hrun, ⟨rows ++ rows2, by simp [hrl, hl2], by simpa using h2, ?_⟩, h3, h5⟩
 have hlt := hown.lt
 have keep : ∀ x2 r2, E.rel (fun b => F b ∧ some b ≠ v.ownBlock) W x2 r2 → E.rel (fun b => F b ∧ some b ≠ v1.ownBlock) w1 x2 r2 := by
  intro x2 r2 hx
  refine E.mono _ _ _ _ _ _ (fun b hb hbl => h3.block b hbl hb.2) (fun b hb hbl => ⟨hb.1, ?_⟩) hx
  rcases h5 with h5 | h5
  ·rw [h5]; exact hb.2
  ·rw [h5]; intro e; injection e with e; omega
 intro k x1 r h1 h2
 by_cases hk' : k < xs.length
 ·rw [List.getElem?_append_left hk'] at h1
  rw [List.getElem?_append_left (by omega)] at h2
  exact keep _ _ (hr k x1 r h1 h2)
 ·rw [List.getElem?_append_right (by omega)] at h1
  rw [List.getElem?_append_right (by omega), hrl] at h2
  obtain ⟨y, e1, hrel, _⟩ := hr2 _ _ h2
  rw [e1] at h1
  injection h1 with h1
  subst h1
  exact keep _ _ (E.mono _ _ _ _ _ _ (fun _ _ _ => rfl) hG hrel)
end Go.Proofs.YtldnjnnhfeobdaaGreatDoor
/- Contracts: turned at types; what Join turns types with; appending a list of types. Conditions: lengths below 2^20. -/
namespace Go.Proofs.YtldnjnnhfeobdaaGreatDoor
open Go.RowKit Go.Shelf
section
variable {P : Program} {ops : Array Oper} {rest : List Oper} {o : Oper} {a : Act} {Q : Exit → Act → World → Prop}
/-- append of all elements of a slice, nil or not, that refer to other memory -/
theorem own_append_list {α : Type} {F G : Nat → Prop} (E : Elt α) {W : World} (base : Nat) (hgd : o.guard = none) (s x : Operand) (t e : TypeId) (bytes : Nat)
  (ho : o.op = .call { callee := .builtin .append, args := #[s, x], argTypes := #[t, t] }) (hI : SliceOf P t e E.k bytes)
  (v u : Value) (xs ys : List α) (hs : a.eval s = v) (hx : a.eval x = u)
  (HO : Own F E W base e v xs) (hy : SlF G E W u ys) (hG : ∀ b, G b → b < W.heap.size → F b ∧ some b ≠ v.ownBlock) (hbase : base ≤ W.heap.size) (hl : (xs.length + ys.length) * bytes ≤ 140737488355328) (hb0 : 0 < bytes)
  (h : ∀ v1 w1, Own F E w1 base e v1 (xs ++ ys) → W.grownBy w1 v.ownBlock → wpList P ops Q rest (a.put o.dst v1) w1) :
  wpList P ops Q (o :: rest) a W := by
 obtain ⟨A, c, rfl⟩ := hy.any.len
 cases A with
 | some ad =>
  obtain ⟨v1, w1, hrun, h2, h3, h4⟩ := run_append_sl (P := P) (F := F) (G := G) E base t o.type e bytes hI v xs ys ad _ c HO hy hG hbase hl hb0
  have h1 := h v1 w1 h2 h3
  refine wpList_plain hgd fun K hK => ?_
  unfold Oper.wp execOp
  simp only [ho, resolve, invoke, builtin, Sem.run_bind, Sem.run_pure, Result.andThen_ok, List.map_toArray, List.map_cons, List.map_nil, hs, hx, hrun]
  exact hK _ _ h1
 | none =>
  have hnil := sl_none hy.any
  subst hnil
  have h1 : wpList P ops Q rest (a.put o.dst v) W := h v W (by rw [List.append_nil]; exact HO) (World.grownBy.refl W _)
  obtain ⟨i, z, hi, _⟩ := hI.info
  obtain ⟨rows, _, hown, _⟩ := HO
  refine wpList_plain hgd fun K hK => ?_
  have hrun := run_append_nothing (P := P) (t := t) (ty := o.type) hI.under hi hown c
  unfold Oper.wp
  have hx' : a.eval x = .slice none 0 c := hx
  simp [execOp, ho, resolve, invoke, builtin, hs, hx', hrun, Result.andThen]
  exact hK _ _ h1
end
set_option maxRecDepth 100000 in
set_option maxHeartbeats 2000000 in
theorem turned_ty (g : Nat) (cb : Array Value) (w : World) (v : Value) (xs : List Ty) (f : Ty → Ty) (hv : Sl tyE w v xs) (hn : xs.length ≤ 1048576)
  (hp : MapP tyE tyE w g cb xs f) :
  Calls Tryz.prog 91 #[v, .func (.func g) #[] cb] w (RetP w (fun w' u => Own (New w) tyE w' w.heap.size 42 u (xs.map f))) := by
 obtain ⟨A, cap, rfl, hs⟩ := hv.ty
 have eg : ∀ args w, (callFunc g args).run Tryz.prog w = .ok (.enter g args) w := hp.1
 have Hp := Lib.hid hp.2
 have Hs := Lib.hid hs
 clear hp hs hv
 go_enter Tryz.func91, Tryz.ntmps91
 go_wp2_with fail
 go_loopw [5, 10] (fun o k wr => ∃ j : Nat, j ≤ xs.length ∧ k = .int .i64 j ∧ Ext w wr ∧ Own (New w) tyE wr w.heap.size 42 o ((xs.map f).take j)) (fun _ k _ => xs.length - (intOf k).toNat)
 case atStart => exact ⟨0, by omega, by simp, Ext.refl _, Own.nil _ _ _ _ _⟩
 case round =>
  obtain ⟨j, hj, rfl, hx, hown⟩ := hrel
  by_cases hlt : j < xs.length
  ·obtain ⟨b, off, vp, vm, vo, rfl, hat, hof⟩ := Hs.out j hlt
   obtain ⟨A1, k1, e1⟩ := hof.parts.len
   obtain ⟨A2, k2, e2⟩ := hof.methods.len
   obtain ⟨A3, k3, e3⟩ := hof.overs.len
   subst e1 e2 e3
   have Hof := Lib.hid hof
   obtain ⟨d0, d1, d2, d3, d4, d5, d6, d7, d8, d9⟩ := hat.mono hx
   have hb1 := cell_lt d0
   have i0 : (0 : Int) ≤ (j : Int) := by omega
   have i1 : (j : Int) < (xs.length : Int) := by omega
   have hpx := Hp.out xs[j] (List.getElem_mem hlt)
   have htk := take_map_snoc f xs j hlt
   have Hpx := Lib.hid hpx
   have Htk := Lib.hid htk
   clear hpx htk hof hat
   generalize xs[j] = x at *
   have Hown := Lib.hid hown
   clear hown
   go_wp2_with fail
   refine (Hpx.out _ _ (hx.alloc _) ⟨_, ⟨_, _, _, rfl, Hof.out.parts.mono (hx.alloc _), Hof.out.methods.mono (hx.alloc _), Hof.out.overs.mono (hx.alloc _)⟩, rfl⟩).mono ?_
   rintro e w1 ⟨v1, rfl, ⟨cs, hrel, rfl⟩, hx1⟩
   have hx2 := ((hx.alloc _)).trans hx1
   have hown1 : Own (New w) tyE w1 w.heap.size 42 u5 ((xs.map f).take j) := Hown.out.kept (Ext.trans ((Ext.refl wr).alloc _) hx1)
   have Hlt : ∀ k, u5.ownBlock = some k → k < wr.heap.size := fun k hk => (Hown.out.lt k hk).2
   have Hrel : Hid (tyE.rel (fun b => New w b ∧ some b ≠ u5.ownBlock) w1 (f x) cs) := tyE.mono _ _ _ _ _ _ (fun _ _ _ => rfl) (fun b hb _ => ⟨New.mono (Ext.size (hx.alloc _)) hb, fun e => by have h1 := Hlt b e.symm; have h2 : _ ≤ b := hb; (try simp at h2); omega⟩) hrel
   obtain ⟨_, _, _, rfl, ⟨_, _, rfl, _⟩, ⟨_, _, rfl, _⟩, ⟨_, _, rfl, _⟩⟩ := hrel
   have Hown1 := Lib.hid hown1
   have Hx2 := Lib.hid hx2
   have hsz := hx2.size
   clear hown1 Hown hx1 hx2 Hlt d0 d1 d2 d3 d4 d5 d6 d7 d8 d9 hb1
   simp only [pack]
   go_wp2_with (at_builtin; refine own_append tyE w.heap.size rfl _ _ 22 42 144 rfl slice22 _ _ (f x) _ rfl rfl Hown1.out Hrel.out ?c1 ?c2 ?c3 ?_)
   case c1 => exact hsz
   case c2 => simp; omega
   case c3 => decide
   intro v2 w2 hown2 hg2
   have hown2 : Own (New w) tyE w2 w.heap.size 42 v2 ((xs.map f).take (j + 1)) := by rw [Htk.out]; exact hown2
   have hx3 : Ext w w2 := Below.grown Hx2.out hg2 hsz (fun k hk => (Hown1.out.lt k hk).1)
   clear hg2 Hown1 Hx2 Hrel
   go_wp2_with fail
   go_roundw
   case rel => exact ⟨j + 1, by omega, by go_num, hx3, hown2⟩
   case measure => simp [intOf]; omega
  ·go_wp2_with fail
   go_ret
   refine ⟨_, rfl, ?_, hx⟩
   have : (xs.map f).take j = xs.map f := List.take_of_length_le (by simp; omega)
   rw [this] at hown
   exact hown
theorem top93 (w : World) (n : Nat) : ToP w 93 #[] (fun x => x) (fun i => 0 ≤ i ∧ i < n) :=
 ⟨enters_of Tryz.func93 (by kernel_rfl) rfl, fun i hi w' hx => by
  show Calls Tryz.prog 93 #[.int .i64 i] w' (Ret w' (.int .i64 i))
  clear hi hx
  go_enter Tryz.func93, Tryz.ntmps93
  go_wp2_with fail
  go_ret
  exact ⟨rfl, Ext.refl w'⟩⟩
set_option maxRecDepth 100000 in
theorem top95 (w : World) (b n m : Nat) (hn : n ≤ 1048576) (hm : m ≤ 1048576) (hb : w.heap[b]? = some (.cells #[.int .i64 (m : Int)] 3)) : ToP w 95 #[.pointer (some ⟨b, 0, none⟩)] (fun x => x + (m : Int)) (fun i => 0 ≤ i ∧ i < n) :=
 ⟨enters_of Tryz.func95 (by kernel_rfl) rfl, fun i hi w' hx => by
  show Calls Tryz.prog 95 #[.int .i64 i, .pointer (some ⟨b, 0, none⟩)] w' (Ret w' (.int .i64 (i + (m : Int))))
  obtain ⟨k, rfl⟩ := Int.eq_ofNat_of_zero_le hi.1
  have c := heap_cell (hx.heap hb) 0 _ rfl
  have l := cell_lt c
  have h1 : (k : Int) < (n : Int) := hi.2
  have hk : k < 1048576 := by omega
  clear hi hx hb
  go_enter Tryz.func95, Tryz.ntmps95
  go_wp2_with fail
  go_ret
  exact ⟨by go_num, Ext.refl w'⟩⟩
set_option maxRecDepth 100000 in
set_option maxHeartbeats 8000000 in
theorem join92_any (w : World) (n : Nat) (t : Ty) (vp vm vo : Value) (hof : TyOf w t vp vm vo) (hs : TySmall t) (hr : ∀ r ∈ refsL t, 0 ≤ r ∧ r < n) (hn : n ≤ 1048576) :
  Calls Tryz.prog 92 #[tyV t vp vm vo] w (RetP w (Res tyE w (turnT (fun x => x) t))) := by
 obtain ⟨A1, c1, e1⟩ := hof.parts.len
 obtain ⟨A2, c2, e2⟩ := hof.methods.len
 obtain ⟨A3, c3, e3⟩ := hof.overs.len
 subst e1 e2 e3
 have hmv := fun (w' : World) (hx : Ext w w') => moved_any w' 93 #[] (fun x => x) (fun i => 0 ≤ i ∧ i < n) t _ _ _ (hof.mono hx) hs (top93 w' n) hr
 have hz : ((w.alloc (.cells #[.int .u8 t.kind, .int .i64 t.low, .int .i64 t.high, .bool t.branded, .string t.brand, .string t.opaq, .int .i64 t.super, .slice A1 t.parts.length c1, .slice A2 t.methods.length c2, .slice A3 t.overs.length c3] 42)).alloc (.cells #[.int .u8 0, .int .i64 0, .int .i64 0, .bool false, .string ⟨#[]⟩, .string ⟨#[]⟩, .int .i64 0, .slice none 0 0, .slice none 0 0, .slice none 0 0] 42)).heap[w.heap.size + 1]? = some (.cells #[.int .u8 0, .int .i64 0, .int .i64 0, .bool false, .string ⟨#[]⟩, .string ⟨#[]⟩, .int .i64 0, .slice none 0 0, .slice none 0 0, .slice none 0 0] 42) := by
  have h := heap_alloc_self (w.alloc (.cells #[.int .u8 t.kind, .int .i64 t.low, .int .i64 t.high, .bool t.branded, .string t.brand, .string t.opaq, .int .i64 t.super, .slice A1 t.parts.length c1, .slice A2 t.methods.length c2, .slice A3 t.overs.length c3] 42)) (.cells #[.int .u8 0, .int .i64 0, .int .i64 0, .bool false, .string ⟨#[]⟩, .string ⟨#[]⟩, .int .i64 0, .slice none 0 0, .slice none 0 0, .slice none 0 0] 42)
  rwa [World.size_alloc] at h
 have hb : ((w.alloc (.cells #[.int .u8 t.kind, .int .i64 t.low, .int .i64 t.high, .bool t.branded, .string t.brand, .string t.opaq, .int .i64 t.super, .slice A1 t.parts.length c1, .slice A2 t.methods.length c2, .slice A3 t.overs.length c3] 42)).alloc (.cells #[.int .u8 0, .int .i64 0, .int .i64 0, .bool false, .string ⟨#[]⟩, .string ⟨#[]⟩, .int .i64 0, .slice none 0 0, .slice none 0 0, .slice none 0 0] 42)).heap[w.heap.size]? = some (.cells #[.int .u8 t.kind, .int .i64 t.low, .int .i64 t.high, .bool t.branded, .string t.brand, .string t.opaq, .int .i64 t.super, .slice A1 t.parts.length c1, .slice A2 t.methods.length c2, .slice A3 t.overs.length c3] 42) := (Below.heap_alloc _ _ _ (by simp)).trans (heap_alloc_self w _)
 have hw1 : Ext w ((w.alloc (.cells #[.int .u8 t.kind, .int .i64 t.low, .int .i64 t.high, .bool t.branded, .string t.brand, .string t.opaq, .int .i64 t.super, .slice A1 t.parts.length c1, .slice A2 t.methods.length c2, .slice A3 t.overs.length c3] 42)).alloc (.cells #[.int .u8 0, .int .i64 0, .int .i64 0, .bool false, .string ⟨#[]⟩, .string ⟨#[]⟩, .int .i64 0, .slice none 0 0, .slice none 0 0, .slice none 0 0] 42)) := ((Ext.refl w).alloc _).alloc _
 have hbx : ((w.alloc (.cells #[.int .u8 t.kind, .int .i64 t.low, .int .i64 t.high, .bool t.branded, .string t.brand, .string t.opaq, .int .i64 t.super, .slice A1 t.parts.length c1, .slice A2 t.methods.length c2, .slice A3 t.overs.length c3] 42)).alloc (.cells #[.int .u8 0, .int .i64 0, .int .i64 0, .bool false, .string ⟨#[]⟩, .string ⟨#[]⟩, .int .i64 0, .slice none 0 0, .slice none 0 0, .slice none 0 0] 42)).heap.size = w.heap.size + 1 + 1 := by simp
 have Hz := Lib.hid hz
 have Hb := Lib.hid hb
 have HW1 := Lib.hid hw1
 have Hbx := Lib.hid hbx
 have Hmv := Lib.hid hmv
 clear hz hb hw1 hbx hmv hof hs hr
 unfold tyV
 go_enter Tryz.func92, Tryz.ntmps92
 go_upto_region 1 with fail
 generalize (w.alloc (.cells #[.int .u8 t.kind, .int .i64 t.low, .int .i64 t.high, .bool t.branded, .string t.brand, .string t.opaq, .int .i64 t.super, .slice A1 t.parts.length c1, .slice A2 t.methods.length c2, .slice A3 t.overs.length c3] 42)).alloc (.cells #[.int .u8 0, .int .i64 0, .int .i64 0, .bool false, .string ⟨#[]⟩, .string ⟨#[]⟩, .int .i64 0, .slice none 0 0, .slice none 0 0, .slice none 0 0] 42) = w1 at *
 have b0 := heap_cell Hb.out 0 _ rfl
 have b1 := heap_cell Hb.out 1 _ rfl
 have b2 := heap_cell Hb.out 2 _ rfl
 have b3 := heap_cell Hb.out 3 _ rfl
 have b4 := heap_cell Hb.out 4 _ rfl
 have b5 := heap_cell Hb.out 5 _ rfl
 have b6 := heap_cell Hb.out 6 _ rfl
 have b7 := heap_cell Hb.out 7 _ rfl
 have b8 := heap_cell Hb.out 8 _ rfl
 have b9 := heap_cell Hb.out 9 _ rfl
 have lb := (Array.getElem?_eq_some_iff.1 Hb.out).1
 have hmv := Hmv.out _ HW1.out
 unfold tyV at hmv
 replace Hmv := Lib.hid hmv
 clear hmv
 go_wp2_with fail
 clear b0 b1 b2 b3 b4 b5 b6 b7 b8 b9 lb
 refine Hmv.out.mono ?_
 rintro e w3 ⟨v3, rfl, ⟨cs, hrel, rfl⟩, hx3⟩
 clear Hmv
 obtain ⟨_, _, _, rfl, ⟨P1, p1, rfl, hs1⟩, ⟨P2, p2, rfl, hs2⟩, ⟨P3, p3, rfl, hs3⟩⟩ := hrel
 have Hv3 := Lib.hid (show SlF (fun b => w.heap.size + 1 + 1 ≤ b) partE w3 (.slice P1 (turnT (fun x => x) t).parts.length p1) (turnT (fun x => x) t).parts from SlF.mono ⟨P1, p1, rfl, hs1⟩ (fun _ _ _ => rfl) (fun b hb _ => by unfold New at hb; have := Hbx.out; omega))
 have Hv4 := Lib.hid (show SlF (fun b => w.heap.size + 1 + 1 ≤ b) methodE w3 (.slice P2 (turnT (fun x => x) t).methods.length p2) (turnT (fun x => x) t).methods from SlF.mono ⟨P2, p2, rfl, hs2⟩ (fun _ _ _ => rfl) (fun b hb _ => by unfold New at hb; have := Hbx.out; omega))
 have Hv5 := Lib.hid (show SlF (fun b => w.heap.size + 1 + 1 ≤ b) overE w3 (.slice P3 (turnT (fun x => x) t).overs.length p3) (turnT (fun x => x) t).overs from SlF.mono ⟨P3, p3, rfl, hs3⟩ (fun _ _ _ => rfl) (fun b hb _ => by unfold New at hb; have := Hbx.out; omega))
 have y := hx3.heap Hz.out
 have Hy := Lib.hid y
 have hx4 := HW1.out.trans hx3
 have Hx4 := Lib.hid hx4
 clear hx3 hx4 hs1 hs2 hs3
 have y0 := heap_cell y 0 _ rfl
 have y1 := heap_cell y 1 _ rfl
 have y2 := heap_cell y 2 _ rfl
 have y3 := heap_cell y 3 _ rfl
 have y4 := heap_cell y 4 _ rfl
 have y5 := heap_cell y 5 _ rfl
 have y6 := heap_cell y 6 _ rfl
 have y7 := heap_cell y 7 _ rfl
 have y8 := heap_cell y 8 _ rfl
 have y9 := heap_cell y 9 _ rfl
 have f0 := heap_frozen y 0
 have f1 := heap_frozen y 1
 have f2 := heap_frozen y 2
 have f3 := heap_frozen y 3
 have f4 := heap_frozen y 4
 have f5 := heap_frozen y 5
 have f6 := heap_frozen y 6
 have f7 := heap_frozen y 7
 have f8 := heap_frozen y 8
 have f9 := heap_frozen y 9
 have ly := (Array.getElem?_eq_some_iff.1 y).1
 clear y
 generalize ht2 : turnT (fun x => x) t = t2 at *
 simp only [pack]
 go_wp2_with fail
 have e5 := row10_set Hy.out (.int .u8 t2.kind) (.int .i64 t2.low) (.int .i64 t2.high) (.bool t2.branded) (.string t2.brand) (.string t2.opaq) (.int .i64 t2.super) (.slice P1 t2.parts.length p1) (.slice P2 t2.methods.length p2) (.slice P3 t2.overs.length p3)
 have d0 := heap_cell e5 0 _ rfl
 have d1 := heap_cell e5 1 _ rfl
 have d2 := heap_cell e5 2 _ rfl
 have d3 := heap_cell e5 3 _ rfl
 have d4 := heap_cell e5 4 _ rfl
 have d5 := heap_cell e5 5 _ rfl
 have d6 := heap_cell e5 6 _ rfl
 have d7 := heap_cell e5 7 _ rfl
 have d8 := heap_cell e5 8 _ rfl
 have d9 := heap_cell e5 9 _ rfl
 rw [ht2]
 refine bodyPost_ret (v := .agg #[.int .u8 t2.kind, .int .i64 t2.low, .int .i64 t2.high, .bool t2.branded, .string t2.brand, .string t2.opaq, .int .i64 t2.super, .slice P1 t2.parts.length p1, .slice P2 t2.methods.length p2, .slice P3 t2.overs.length p3]) ?_ rfl ?_
 ·simp [results, Tryz.results92, go_sem, d0, d1, d2, d3, d4, d5, d6, d7, d8, d9]
 ·refine ⟨_, rfl, ⟨_, ⟨_, _, _, rfl, ?_, ?_, ?_⟩, rfl⟩, ?_⟩
  ·refine SlF.mono Hv3.out (fun b hb _ => ?_) (fun b hb _ => (by unfold New; omega))
   rw [Below.heap_setCell _ _ _ _ (by simp; omega), Below.heap_setCell _ _ _ _ (by simp; omega), Below.heap_setCell _ _ _ _ (by simp; omega), Below.heap_setCell _ _ _ _ (by simp; omega), Below.heap_setCell _ _ _ _ (by simp; omega), Below.heap_setCell _ _ _ _ (by simp; omega), Below.heap_setCell _ _ _ _ (by simp; omega), Below.heap_setCell _ _ _ _ (by simp; omega), Below.heap_setCell _ _ _ _ (by simp; omega), Below.heap_setCell _ _ _ _ (by simp; omega)]
  ·refine SlF.mono Hv4.out (fun b hb _ => ?_) (fun b hb _ => (by unfold New; omega))
   rw [Below.heap_setCell _ _ _ _ (by simp; omega), Below.heap_setCell _ _ _ _ (by simp; omega), Below.heap_setCell _ _ _ _ (by simp; omega), Below.heap_setCell _ _ _ _ (by simp; omega), Below.heap_setCell _ _ _ _ (by simp; omega), Below.heap_setCell _ _ _ _ (by simp; omega), Below.heap_setCell _ _ _ _ (by simp; omega), Below.heap_setCell _ _ _ _ (by simp; omega), Below.heap_setCell _ _ _ _ (by simp; omega), Below.heap_setCell _ _ _ _ (by simp; omega)]
  ·refine SlF.mono Hv5.out (fun b hb _ => ?_) (fun b hb _ => (by unfold New; omega))
   rw [Below.heap_setCell _ _ _ _ (by simp; omega), Below.heap_setCell _ _ _ _ (by simp; omega), Below.heap_setCell _ _ _ _ (by simp; omega), Below.heap_setCell _ _ _ _ (by simp; omega), Below.heap_setCell _ _ _ _ (by simp; omega), Below.heap_setCell _ _ _ _ (by simp; omega), Below.heap_setCell _ _ _ _ (by simp; omega), Below.heap_setCell _ _ _ _ (by simp; omega), Below.heap_setCell _ _ _ _ (by simp; omega), Below.heap_setCell _ _ _ _ (by simp; omega)]
  ·exact ((((((((((Hx4.out).setCell (by simp) _).setCell (by simp) _).setCell (by simp) _).setCell (by simp) _).setCell (by simp) _).setCell (by simp) _).setCell (by simp) _).setCell (by simp) _).setCell (by simp) _).setCell (by simp) _
set_option maxRecDepth 100000 in
set_option maxHeartbeats 8000000 in
theorem join94_any (w : World) (b n m : Nat) (t : Ty) (vp vm vo : Value) (hof : TyOf w t vp vm vo) (hs : TySmall t) (hr : ∀ r ∈ refsL t, 0 ≤ r ∧ r < n) (hn : n ≤ 1048576) (hm : m ≤ 1048576) (hb0 : w.heap[b]? = some (.cells #[.int .i64 (m : Int)] 3)) :
  Calls Tryz.prog 94 #[tyV t vp vm vo, .pointer (some ⟨b, 0, none⟩)] w (RetP w (Res tyE w (turnT (fun x => x + (m : Int)) t))) := by
 obtain ⟨A1, c1, e1⟩ := hof.parts.len
 obtain ⟨A2, c2, e2⟩ := hof.methods.len
 obtain ⟨A3, c3, e3⟩ := hof.overs.len
 subst e1 e2 e3
 have hmv := fun (w' : World) (hx : Ext w w') => moved_any w' 95 #[.pointer (some ⟨b, 0, none⟩)] (fun x => x + (m : Int)) (fun i => 0 ≤ i ∧ i < n) t _ _ _ (hof.mono hx) hs (top95 w' b n m hn hm (hx.heap hb0)) hr
 clear hb0
 have hz : ((w.alloc (.cells #[.int .u8 t.kind, .int .i64 t.low, .int .i64 t.high, .bool t.branded, .string t.brand, .string t.opaq, .int .i64 t.super, .slice A1 t.parts.length c1, .slice A2 t.methods.length c2, .slice A3 t.overs.length c3] 42)).alloc (.cells #[.int .u8 0, .int .i64 0, .int .i64 0, .bool false, .string ⟨#[]⟩, .string ⟨#[]⟩, .int .i64 0, .slice none 0 0, .slice none 0 0, .slice none 0 0] 42)).heap[w.heap.size + 1]? = some (.cells #[.int .u8 0, .int .i64 0, .int .i64 0, .bool false, .string ⟨#[]⟩, .string ⟨#[]⟩, .int .i64 0, .slice none 0 0, .slice none 0 0, .slice none 0 0] 42) := by
  have h := heap_alloc_self (w.alloc (.cells #[.int .u8 t.kind, .int .i64 t.low, .int .i64 t.high, .bool t.branded, .string t.brand, .string t.opaq, .int .i64 t.super, .slice A1 t.parts.length c1, .slice A2 t.methods.length c2, .slice A3 t.overs.length c3] 42)) (.cells #[.int .u8 0, .int .i64 0, .int .i64 0, .bool false, .string ⟨#[]⟩, .string ⟨#[]⟩, .int .i64 0, .slice none 0 0, .slice none 0 0, .slice none 0 0] 42)
  rwa [World.size_alloc] at h
 have hb : ((w.alloc (.cells #[.int .u8 t.kind, .int .i64 t.low, .int .i64 t.high, .bool t.branded, .string t.brand, .string t.opaq, .int .i64 t.super, .slice A1 t.parts.length c1, .slice A2 t.methods.length c2, .slice A3 t.overs.length c3] 42)).alloc (.cells #[.int .u8 0, .int .i64 0, .int .i64 0, .bool false, .string ⟨#[]⟩, .string ⟨#[]⟩, .int .i64 0, .slice none 0 0, .slice none 0 0, .slice none 0 0] 42)).heap[w.heap.size]? = some (.cells #[.int .u8 t.kind, .int .i64 t.low, .int .i64 t.high, .bool t.branded, .string t.brand, .string t.opaq, .int .i64 t.super, .slice A1 t.parts.length c1, .slice A2 t.methods.length c2, .slice A3 t.overs.length c3] 42) := (Below.heap_alloc _ _ _ (by simp)).trans (heap_alloc_self w _)
 have hw1 : Ext w ((w.alloc (.cells #[.int .u8 t.kind, .int .i64 t.low, .int .i64 t.high, .bool t.branded, .string t.brand, .string t.opaq, .int .i64 t.super, .slice A1 t.parts.length c1, .slice A2 t.methods.length c2, .slice A3 t.overs.length c3] 42)).alloc (.cells #[.int .u8 0, .int .i64 0, .int .i64 0, .bool false, .string ⟨#[]⟩, .string ⟨#[]⟩, .int .i64 0, .slice none 0 0, .slice none 0 0, .slice none 0 0] 42)) := ((Ext.refl w).alloc _).alloc _
 have hbx : ((w.alloc (.cells #[.int .u8 t.kind, .int .i64 t.low, .int .i64 t.high, .bool t.branded, .string t.brand, .string t.opaq, .int .i64 t.super, .slice A1 t.parts.length c1, .slice A2 t.methods.length c2, .slice A3 t.overs.length c3] 42)).alloc (.cells #[.int .u8 0, .int .i64 0, .int .i64 0, .bool false, .string ⟨#[]⟩, .string ⟨#[]⟩, .int .i64 0, .slice none 0 0, .slice none 0 0, .slice none 0 0] 42)).heap.size = w.heap.size + 1 + 1 := by simp
 have Hz := Lib.hid hz
 have Hb := Lib.hid hb
 have HW1 := Lib.hid hw1
 have Hbx := Lib.hid hbx
 have Hmv := Lib.hid hmv
 clear hz hb hw1 hbx hmv hof hs hr
 unfold tyV
 go_enter Tryz.func94, Tryz.ntmps94
 go_upto_region 1 with fail
 generalize (w.alloc (.cells #[.int .u8 t.kind, .int .i64 t.low, .int .i64 t.high, .bool t.branded, .string t.brand, .string t.opaq, .int .i64 t.super, .slice A1 t.parts.length c1, .slice A2 t.methods.length c2, .slice A3 t.overs.length c3] 42)).alloc (.cells #[.int .u8 0, .int .i64 0, .int .i64 0, .bool false, .string ⟨#[]⟩, .string ⟨#[]⟩, .int .i64 0, .slice none 0 0, .slice none 0 0, .slice none 0 0] 42) = w1 at *
 have b0 := heap_cell Hb.out 0 _ rfl
 have b1 := heap_cell Hb.out 1 _ rfl
 have b2 := heap_cell Hb.out 2 _ rfl
 have b3 := heap_cell Hb.out 3 _ rfl
 have b4 := heap_cell Hb.out 4 _ rfl
 have b5 := heap_cell Hb.out 5 _ rfl
 have b6 := heap_cell Hb.out 6 _ rfl
 have b7 := heap_cell Hb.out 7 _ rfl
 have b8 := heap_cell Hb.out 8 _ rfl
 have b9 := heap_cell Hb.out 9 _ rfl
 have lb := (Array.getElem?_eq_some_iff.1 Hb.out).1
 have hmv := Hmv.out _ HW1.out
 unfold tyV at hmv
 replace Hmv := Lib.hid hmv
 clear hmv
 go_wp2_with fail
 clear b0 b1 b2 b3 b4 b5 b6 b7 b8 b9 lb
 refine Hmv.out.mono ?_
 rintro e w3 ⟨v3, rfl, ⟨cs, hrel, rfl⟩, hx3⟩
 clear Hmv
 obtain ⟨_, _, _, rfl, ⟨P1, p1, rfl, hs1⟩, ⟨P2, p2, rfl, hs2⟩, ⟨P3, p3, rfl, hs3⟩⟩ := hrel
 have Hv3 := Lib.hid (show SlF (fun b => w.heap.size + 1 + 1 ≤ b) partE w3 (.slice P1 (turnT (fun x => x + (m : Int)) t).parts.length p1) (turnT (fun x => x + (m : Int)) t).parts from SlF.mono ⟨P1, p1, rfl, hs1⟩ (fun _ _ _ => rfl) (fun b hb _ => by unfold New at hb; have := Hbx.out; omega))
 have Hv4 := Lib.hid (show SlF (fun b => w.heap.size + 1 + 1 ≤ b) methodE w3 (.slice P2 (turnT (fun x => x + (m : Int)) t).methods.length p2) (turnT (fun x => x + (m : Int)) t).methods from SlF.mono ⟨P2, p2, rfl, hs2⟩ (fun _ _ _ => rfl) (fun b hb _ => by unfold New at hb; have := Hbx.out; omega))
 have Hv5 := Lib.hid (show SlF (fun b => w.heap.size + 1 + 1 ≤ b) overE w3 (.slice P3 (turnT (fun x => x + (m : Int)) t).overs.length p3) (turnT (fun x => x + (m : Int)) t).overs from SlF.mono ⟨P3, p3, rfl, hs3⟩ (fun _ _ _ => rfl) (fun b hb _ => by unfold New at hb; have := Hbx.out; omega))
 have y := hx3.heap Hz.out
 have Hy := Lib.hid y
 have hx4 := HW1.out.trans hx3
 have Hx4 := Lib.hid hx4
 clear hx3 hx4 hs1 hs2 hs3
 have y0 := heap_cell y 0 _ rfl
 have y1 := heap_cell y 1 _ rfl
 have y2 := heap_cell y 2 _ rfl
 have y3 := heap_cell y 3 _ rfl
 have y4 := heap_cell y 4 _ rfl
 have y5 := heap_cell y 5 _ rfl
 have y6 := heap_cell y 6 _ rfl
 have y7 := heap_cell y 7 _ rfl
 have y8 := heap_cell y 8 _ rfl
 have y9 := heap_cell y 9 _ rfl
 have f0 := heap_frozen y 0
 have f1 := heap_frozen y 1
 have f2 := heap_frozen y 2
 have f3 := heap_frozen y 3
 have f4 := heap_frozen y 4
 have f5 := heap_frozen y 5
 have f6 := heap_frozen y 6
 have f7 := heap_frozen y 7
 have f8 := heap_frozen y 8
 have f9 := heap_frozen y 9
 have ly := (Array.getElem?_eq_some_iff.1 y).1
 clear y
 generalize ht2 : turnT (fun x => x + (m : Int)) t = t2 at *
 simp only [pack]
 go_wp2_with fail
 have e5 := row10_set Hy.out (.int .u8 t2.kind) (.int .i64 t2.low) (.int .i64 t2.high) (.bool t2.branded) (.string t2.brand) (.string t2.opaq) (.int .i64 t2.super) (.slice P1 t2.parts.length p1) (.slice P2 t2.methods.length p2) (.slice P3 t2.overs.length p3)
 have d0 := heap_cell e5 0 _ rfl
 have d1 := heap_cell e5 1 _ rfl
 have d2 := heap_cell e5 2 _ rfl
 have d3 := heap_cell e5 3 _ rfl
 have d4 := heap_cell e5 4 _ rfl
 have d5 := heap_cell e5 5 _ rfl
 have d6 := heap_cell e5 6 _ rfl
 have d7 := heap_cell e5 7 _ rfl
 have d8 := heap_cell e5 8 _ rfl
 have d9 := heap_cell e5 9 _ rfl
 rw [ht2]
 refine bodyPost_ret (v := .agg #[.int .u8 t2.kind, .int .i64 t2.low, .int .i64 t2.high, .bool t2.branded, .string t2.brand, .string t2.opaq, .int .i64 t2.super, .slice P1 t2.parts.length p1, .slice P2 t2.methods.length p2, .slice P3 t2.overs.length p3]) ?_ rfl ?_
 ·simp [results, Tryz.results94, go_sem, d0, d1, d2, d3, d4, d5, d6, d7, d8, d9]
 ·refine ⟨_, rfl, ⟨_, ⟨_, _, _, rfl, ?_, ?_, ?_⟩, rfl⟩, ?_⟩
  ·refine SlF.mono Hv3.out (fun b hb _ => ?_) (fun b hb _ => (by unfold New; omega))
   rw [Below.heap_setCell _ _ _ _ (by simp; omega), Below.heap_setCell _ _ _ _ (by simp; omega), Below.heap_setCell _ _ _ _ (by simp; omega), Below.heap_setCell _ _ _ _ (by simp; omega), Below.heap_setCell _ _ _ _ (by simp; omega), Below.heap_setCell _ _ _ _ (by simp; omega), Below.heap_setCell _ _ _ _ (by simp; omega), Below.heap_setCell _ _ _ _ (by simp; omega), Below.heap_setCell _ _ _ _ (by simp; omega), Below.heap_setCell _ _ _ _ (by simp; omega)]
  ·refine SlF.mono Hv4.out (fun b hb _ => ?_) (fun b hb _ => (by unfold New; omega))
   rw [Below.heap_setCell _ _ _ _ (by simp; omega), Below.heap_setCell _ _ _ _ (by simp; omega), Below.heap_setCell _ _ _ _ (by simp; omega), Below.heap_setCell _ _ _ _ (by simp; omega), Below.heap_setCell _ _ _ _ (by simp; omega), Below.heap_setCell _ _ _ _ (by simp; omega), Below.heap_setCell _ _ _ _ (by simp; omega), Below.heap_setCell _ _ _ _ (by simp; omega), Below.heap_setCell _ _ _ _ (by simp; omega), Below.heap_setCell _ _ _ _ (by simp; omega)]
  ·refine SlF.mono Hv5.out (fun b hb _ => ?_) (fun b hb _ => (by unfold New; omega))
   rw [Below.heap_setCell _ _ _ _ (by simp; omega), Below.heap_setCell _ _ _ _ (by simp; omega), Below.heap_setCell _ _ _ _ (by simp; omega), Below.heap_setCell _ _ _ _ (by simp; omega), Below.heap_setCell _ _ _ _ (by simp; omega), Below.heap_setCell _ _ _ _ (by simp; omega), Below.heap_setCell _ _ _ _ (by simp; omega), Below.heap_setCell _ _ _ _ (by simp; omega), Below.heap_setCell _ _ _ _ (by simp; omega), Below.heap_setCell _ _ _ _ (by simp; omega)]
  ·exact ((((((((((Hx4.out).setCell (by simp) _).setCell (by simp) _).setCell (by simp) _).setCell (by simp) _).setCell (by simp) _).setCell (by simp) _).setCell (by simp) _).setCell (by simp) _).setCell (by simp) _).setCell (by simp) _
end Go.Proofs.YtldnjnnhfeobdaaGreatDoor
/- Contract: Join. Conditions: tidy graphs. -/
namespace Go.Proofs.YtldnjnnhfeobdaaGreatDoor
open Go.RowKit Go.Shelf
def JoinPost (w : World) (g h : Graph) (e : Ending) (w' : World) : Prop :=
 ∃ v, e = .returned (.tuple #[v, .int .i64 (joinE g h)]) ∧ Sl tyE w' v (joinG g h) ∧ Ext w w'
theorem errG_nil (g : Graph) : errG g [] = 0 ∨ errG g [] = 30 := by
 unfold errG
 split
 ·left; rfl
 ·right; rfl
set_option maxRecDepth 100000 in
theorem map92 (w : World) (g : Graph) (hT : Tidy g) (hW : WF g) : MapP tyE tyE w 92 #[] g (turnT fun x => x) :=
 ⟨enters_of Tryz.func92 (by kernel_rfl) rfl, by
  rintro x hm w' A hx ⟨cs, ⟨vp, vm, vo, rfl, hp, hmm, ho⟩, rfl⟩
  have h := join92_any w' g.length x vp vm vo ⟨hp, hmm, ho⟩ (hT.ty x hm).1 (hW.fine hm).refs hT.len
  unfold tyV at h
  simpa only [pack, Array.append_empty] using h⟩
set_option maxRecDepth 100000 in
theorem map94 (w : World) (h : Graph) (b m : Nat) (hT : Tidy h) (hW : WF h) (hm : m ≤ 1048576) (hb : w.heap[b]? = some (.cells #[.int .i64 (m : Int)] 3)) : MapP tyE tyE w 94 #[.pointer (some ⟨b, 0, none⟩)] h (turnT fun x => x + (m : Int)) :=
 ⟨enters_of Tryz.func94 (by kernel_rfl) rfl, by
  rintro x hmx w' A hx ⟨cs, ⟨vp, vm, vo, rfl, hp, hmm, ho⟩, rfl⟩
  have h := join94_any w' b h.length m x vp vm vo ⟨hp, hmm, ho⟩ (hT.ty x hmx).1 (hW.fine hmx).refs hT.len hm (hx.heap hb)
  unfold tyV at h
  have e : ∀ A p : Value, (#[A] ++ #[p] : Array Value) = #[A, p] := fun _ _ => rfl
  rw [e]
  exact h⟩
set_option maxRecDepth 100000 in
set_option maxHeartbeats 8000000 in
theorem Join_any (w : World) (u v : Value) (g h : Graph) (hg : Sl tyE w u g) (hh : Sl tyE w v h) (hT : Tidy g) (hT' : Tidy h) (hG : Glob w) :
  Calls Tryz.prog 44 #[u, v] w (JoinPost w g h) := by
 have hop := opened_any w u (.slice none 0 0) g [] hg hT hG (Sl.nil _ _) (by simp)
 have hop2 := fun w' (hx : Ext w w') => opened_any w' v (.slice none 0 0) h [] (hh.mono hx) hT' (hG.mono hx) (Sl.nil _ _) (by simp)
 have hn := hT.len
 have hm := hT'.len
 unfold JoinPost
 obtain ⟨A, ca, eA⟩ := hg.len
 obtain ⟨B, cb, eB⟩ := hh.len
 subst eA eB
 by_cases h0 : errG g [] = 0
 case neg =>
  have h30 : errG g [] = 30 := (errG_nil g).resolve_left h0
  have e1 : joinE g h = 30 := by unfold joinE; rw [if_neg (fun h => h0 h.1)]
  have e2 : joinG g h = [] := by unfold joinG; rw [e1]; rfl
  rw [e1, e2]
  rw [h30] at hop
  have Hop := Lib.hid hop
  clear hop hop2 hg hh hT hT' hG h0 h30 e1 e2
  go_enter Tryz.func44, Tryz.ntmps44
  go_wp2_with fail
  refine Hop.out.mono ?_
  rintro e w1 ⟨rfl, hx1⟩
  go_wp2_with fail
  go_ret2
  exact ⟨_, rfl, Sl.nil _ _, hx1.alloc _⟩
 by_cases h1 : errG h [] = 0
 case neg =>
  have h30 : errG h [] = 30 := (errG_nil h).resolve_left h1
  have e1 : joinE g h = 30 := by unfold joinE; rw [if_neg (fun h => h1 h.2)]
  have e2 : joinG g h = [] := by unfold joinG; rw [e1]; rfl
  rw [e1, e2]
  rw [h0] at hop
  rw [h30] at hop2
  have Hop := Lib.hid hop
  have Hop2 := Lib.hid hop2
  clear hop hop2 hg hh hT hT' hG h0 h1 h30 e1 e2
  go_enter Tryz.func44, Tryz.ntmps44
  go_wp2_with fail
  refine Hop.out.mono ?_
  rintro e w1 ⟨rfl, hx1⟩
  go_wp2_with fail
  refine (Hop2.out _ (hx1.alloc _)).mono ?_
  rintro e w2 ⟨rfl, hx2⟩
  go_wp2_with fail
  go_ret2
  exact ⟨_, rfl, Sl.nil _ _, ((hx1.alloc _).trans hx2).alloc _⟩
 rw [h0] at hop
 rw [h1] at hop2
 by_cases h4 : 400 < g.length + h.length
 ·have e1 : joinE g h = 2 := by unfold joinE; rw [if_pos ⟨h0, h1⟩, if_pos h4]
  have e2 : joinG g h = [] := by unfold joinG; rw [e1]; rfl
  rw [e1, e2]
  have q : (400 : Int) < (g.length : Int) + (h.length : Int) := by omega
  have Hop := Lib.hid hop
  have Hop2 := Lib.hid hop2
  clear hop hop2 hg hh hT hT' hG h0 h1 e1 e2 h4
  go_enter Tryz.func44, Tryz.ntmps44
  go_wp2_with fail
  refine Hop.out.mono ?_
  rintro e w1 ⟨rfl, hx1⟩
  go_wp2_with fail
  refine (Hop2.out _ (hx1.alloc _)).mono ?_
  rintro e w2 ⟨rfl, hx2⟩
  go_wp2_with fail
  go_ret2
  exact ⟨_, rfl, Sl.nil _ _, ((hx1.alloc _).trans hx2).alloc _⟩
 ·have e1 : joinE g h = 0 := by unfold joinE; rw [if_pos ⟨h0, h1⟩, if_neg h4]
  have e2 : joinG g h = g.map (turnT fun x => x) ++ h.map (turnT fun x => x + (g.length : Int)) := by unfold joinG; rw [if_pos e1]
  rw [e1, e2]
  have q : ¬ (400 : Int) < (g.length : Int) + (h.length : Int) := by omega
  have hW := (errG_zero h0).1
  have hW' := (errG_zero h1).1
  have ht1 := fun w' (hx : Ext w w') => turned_ty 92 #[] w' _ g (turnT fun x => x) (hg.mono hx) hn (map92 w' g hT hW)
  have ht2 := fun w' (hx : Ext w w') (b : Nat) (hb : w'.heap[b]? = some (.cells #[.int .i64 (g.length : Int)] 3)) => turned_ty 94 #[.pointer (some ⟨b, 0, none⟩)] w' _ h (turnT fun x => x + (g.length : Int)) (hh.mono hx) hm (map94 w' h b g.length hT' hW' hn hb)
  have Hop := Lib.hid hop
  have Hop2 := Lib.hid hop2
  have Ht1 := Lib.hid ht1
  have Ht2 := Lib.hid ht2
  have hl1 : (g.map (turnT fun x => x)).length = g.length := by simp
  have hl2 : (h.map (turnT fun x => x + (g.length : Int))).length = h.length := by simp
  generalize hX : g.map (turnT fun x => x) = X at *
  generalize hY : h.map (turnT fun x => x + (g.length : Int)) = Y at *
  have Hl1 := Lib.hid hl1
  have Hl2 := Lib.hid hl2
  clear hop hop2 hg hh hT hT' hG h0 h1 e1 e2 ht1 ht2 hX hY hW hW' hl1 hl2
  go_enter Tryz.func44, Tryz.ntmps44
  go_wp2_with fail
  refine Hop.out.mono ?_
  rintro e w1 ⟨rfl, hx1⟩
  go_wp2_with fail
  refine (Hop2.out _ (hx1.alloc _)).mono ?_
  rintro e w2 ⟨rfl, hx2⟩
  have Hx2 := Lib.hid ((((hx1.alloc _).trans hx2).alloc (.cells #[.slice B h.length cb] 77)).alloc (.cells #[.int .i64 (g.length : Int)] 3))
  have hb := heap_alloc_self (w2.alloc (.cells #[.slice B h.length cb] 77)) (.cells #[.int .i64 (g.length : Int)] 3)
  rw [World.size_alloc] at hb
  have Hb := Lib.hid hb
  clear hb hx1 hx2
  go_wp2_with fail
  generalize (w2.alloc (.cells #[.slice B h.length cb] 77)).alloc (.cells #[.int .i64 (g.length : Int)] 3) = w3 at *
  generalize w2.heap.size + 1 = bn at *
  refine (Ht1.out _ Hx2.out).mono ?_
  rintro e w4 ⟨v4, rfl, hv4, hx4⟩
  have Hv4 := Lib.hid hv4
  obtain ⟨A4, c4, e4⟩ := hv4.len
  rw [Hl1.out] at e4
  subst e4
  have Hx4 := Lib.hid (Hx2.out.trans hx4)
  replace Hb := Lib.hid (hx4.heap Hb.out)
  have Hs34 := Lib.hid hx4.size
  clear hv4 hx4
  go_wp2_with fail
  refine (Ht2.out _ Hx4.out bn Hb.out).mono ?_
  rintro e w5 ⟨v5, rfl, hv5, hx5⟩
  have Hv5 := Lib.hid (hv5.sl (F := New w4) (fun b hb => hb))
  obtain ⟨A5, c5, e5⟩ := hv5.len
  rw [Hl2.out] at e5
  subst e5
  have Hx5 := Lib.hid (Hx4.out.trans hx5)
  have Hs45 := Lib.hid hx5.size
  have Hv45 := Lib.hid (Hv4.out.kept hx5)
  have Hlt4 := Lib.hid (fun b hb => (Hv4.out.lt b hb).2)
  clear hv5 hx5
  go_wp2_with (at_builtin; refine own_append_list (F := New w3) (G := New w4) tyE w3.heap.size rfl _ _ 22 42 144 rfl slice22 _ _ X Y rfl rfl Hv45.out Hv5.out ?c1 ?c2 ?c3 ?c4 ?_)
  case c1 =>
   intro b hb hlt
   refine ⟨New.mono Hs34.out hb, fun e => ?_⟩
   have := Hlt4.out b e.symm
   have h2 : w4.heap.size ≤ b := hb
   omega
  case c2 => have := Hs34.out; have := Hs45.out; omega
  case c3 => rw [Hl1.out, Hl2.out]; omega
  case c4 => decide
  intro v6 w6 hown6 hg6
  have Hx6 := Lib.hid (show Ext w w6 from Below.grown Hx5.out hg6 Hx5.out.size (fun b hb => by have := (Hv45.out.lt b hb).1; have := Hx2.out.size; omega))
  have Hv6 := Lib.hid ((hown6.sl (F := New w3) (fun b hb => hb)).any)
  obtain ⟨A6, c6, e6⟩ := Hv6.out.len
  subst e6
  clear hown6 hg6
  go_wp2_with fail
  go_ret2
  exact ⟨_, rfl, Hv6.out, Hx6.out⟩
end Go.Proofs.YtldnjnnhfeobdaaGreatDoor
/- Contract of the reference: Join. Conditions: tidy graphs. -/
namespace Go.Proofs.YtldnjnnhfeobdaaGreatDoor
open Go.RowKit Go.Shelf
/-- the numbers from a on, so far as they are written -/
def runL (a n k : Nat) : List Nat := (List.range n).map fun i => if i < k then a + i else 0
theorem runL_length (a n k : Nat) : (runL a n k).length = n := by simp [runL]
theorem runL_zero (a n : Nat) : runL a n 0 = List.replicate n 0 := by
 unfold runL
 refine List.ext_getElem? fun i => ?_
 rw [List.getElem?_map, List.getElem?_replicate]
 by_cases hi : i < n
 ·rw [List.getElem?_range hi, if_pos hi]; rfl
 ·rw [List.getElem?_eq_none (by simp; omega), if_neg hi]; rfl
theorem runL_set (a : Nat) {n k : Nat} (hk : k < n) : (runL a n k).set k (a + k) = runL a n (k + 1) := by
 refine List.ext_getElem? fun i => ?_
 unfold runL
 rw [List.getElem?_set, List.length_map, List.length_range]
 by_cases e : k = i
 ·subst e
  rw [if_pos rfl, if_pos hk, List.getElem?_map, List.getElem?_range hk]
  simp
 ·rw [if_neg e, List.getElem?_map, List.getElem?_map]
  by_cases hi : i < n
  ·rw [List.getElem?_range hi]
   simp only [Option.map_some, Option.some.injEq]
   by_cases h : i < k
   ·rw [if_pos h, if_pos (by omega)]
   ·rw [if_neg h, if_neg (by omega)]
  ·rw [List.getElem?_eq_none (by simp; omega)]; rfl
theorem runL_own (n : Nat) : (runL 0 n n).map (fun (n : Nat) => (n : Int)) = ownI n := by
 unfold runL ownI
 rw [List.map_map]
 refine List.map_congr_left fun i hi => ?_
 rw [List.mem_range] at hi
 simp only [Function.comp]
 rw [if_pos hi]; simp
theorem runL_more (a n : Nat) : (runL a n n).map (fun (n : Nat) => (n : Int)) = moreI a n := by
 unfold runL moreI
 rw [List.map_map]
 refine List.map_congr_left fun i hi => ?_
 rw [List.mem_range] at hi
 simp only [Function.comp]
 rw [if_pos hi]
theorem map_take_succ {α β : Type} (f : α → β) (xs : List α) (k : Nat) (h : k < xs.length) : (xs.take (k + 1)).map f = (xs.take k).map f ++ [f xs[k]] := by
 rw [List.take_succ_eq_append_getElem h, List.map_append]; rfl
set_option maxRecDepth 100000 in
set_option maxHeartbeats 16000000 in
theorem rJoin_any (w : World) (u v : Value) (g h : Graph) (hg : Sl tyE w u g) (hh : Sl tyE w v h) (hT : Tidy g) (hT' : Tidy h) :
  Calls Tryz.prog 45 #[u, v] w (JoinPost w g h) := by
 have hop := rchecked_any w u (.slice none 0 0) g [] hg hT (Sl.nil _ _) (by simp)
 have hop2 := fun w' (hx : Ext w w') => rchecked_any w' v (.slice none 0 0) h [] (hh.mono hx) hT' (Sl.nil _ _) (by simp)
 have hn := hT.len
 have hm := hT'.len
 have hmk1 := fun w' => make_zeros w' g.length hn
 have hmk2 := fun w' => make_zeros w' h.length hm
 unfold JoinPost
 obtain ⟨A, ca, rfl, hs⟩ := hg.ty
 obtain ⟨B, cb, rfl, ht⟩ := hh.ty
 by_cases h0 : errG g [] = 0
 case neg =>
  have h30 : errG g [] = 30 := (errG_nil g).resolve_left h0
  have e1 : joinE g h = 30 := by unfold joinE; rw [if_neg (fun h => h0 h.1)]
  have e2 : joinG g h = [] := by unfold joinG; rw [e1]; rfl
  rw [e1, e2]
  rw [h30] at hop
  have Hop := Lib.hid hop
  clear hop hop2 hg hh hT hT' h0 h30 e1 e2 hs ht
  go_enter Tryz.func45, Tryz.ntmps45
  go_wp2_with fail
  refine Hop.out.mono ?_
  rintro e w1 ⟨rfl, hx1⟩
  go_wp2_with fail
  go_ret2
  exact ⟨_, rfl, Sl.nil _ _, hx1⟩
 by_cases h1 : errG h [] = 0
 case neg =>
  have h30 : errG h [] = 30 := (errG_nil h).resolve_left h1
  have e1 : joinE g h = 30 := by unfold joinE; rw [if_neg (fun h => h1 h.2)]
  have e2 : joinG g h = [] := by unfold joinG; rw [e1]; rfl
  rw [e1, e2]
  rw [h0] at hop
  rw [h30] at hop2
  have Hop := Lib.hid hop
  have Hop2 := Lib.hid hop2
  clear hop hop2 hg hh hT hT' h0 h1 h30 e1 e2 hs ht
  go_enter Tryz.func45, Tryz.ntmps45
  go_wp2_with fail
  refine Hop.out.mono ?_
  rintro e w1 ⟨rfl, hx1⟩
  go_wp2_with fail
  refine (Hop2.out _ hx1).mono ?_
  rintro e w2 ⟨rfl, hx2⟩
  go_wp2_with fail
  go_ret2
  exact ⟨_, rfl, Sl.nil _ _, hx1.trans hx2⟩
 rw [h0] at hop
 rw [h1] at hop2
 by_cases h4 : 400 < g.length + h.length
 ·have e1 : joinE g h = 2 := by unfold joinE; rw [if_pos ⟨h0, h1⟩, if_pos h4]
  have e2 : joinG g h = [] := by unfold joinG; rw [e1]; rfl
  rw [e1, e2]
  have q : (400 : Int) < (g.length : Int) + (h.length : Int) := by omega
  have Hop := Lib.hid hop
  have Hop2 := Lib.hid hop2
  clear hop hop2 hg hh hT hT' h0 h1 e1 e2 h4 hs ht
  go_enter Tryz.func45, Tryz.ntmps45
  go_wp2_with fail
  refine Hop.out.mono ?_
  rintro e w1 ⟨rfl, hx1⟩
  go_wp2_with fail
  refine (Hop2.out _ hx1).mono ?_
  rintro e w2 ⟨rfl, hx2⟩
  go_wp2_with fail
  go_ret2
  exact ⟨_, rfl, Sl.nil _ _, hx1.trans hx2⟩
 ·have e1 : joinE g h = 0 := by unfold joinE; rw [if_pos ⟨h0, h1⟩, if_neg h4]
  have e2 : joinG g h = g.map (turnT fun x => x) ++ h.map (turnT fun x => x + (g.length : Int)) := by unfold joinG; rw [if_pos e1]
  rw [e1, e2]
  have q : ¬ (400 : Int) < (g.length : Int) + (h.length : Int) := by omega
  have hW := (errG_zero h0).1
  have hW' := (errG_zero h1).1
  have Hfg := Lib.hid (fun i (hi : i < g.length) => hW.fine (getT_mem hi))
  have Hfh := Lib.hid (fun i (hi : i < h.length) => hW'.fine (getT_mem hi))
  have Htu1 := Lib.hid (fun i (hi : i < g.length) => own_turn hW hi)
  have Htu2 := Lib.hid (fun i (hi : i < h.length) => more_turn hW' g.length hi)
  have Hop := Lib.hid hop
  have Hop2 := Lib.hid hop2
  have Hs := Lib.hid hs
  have Ht := Lib.hid ht
  clear hop hop2 hg hh hT hT' h0 h1 e1 e2 hs ht hW hW'
  go_enter Tryz.func45, Tryz.ntmps45
  go_wp2_with fail
  refine Hop.out.mono ?_
  rintro e w1 ⟨rfl, hx1⟩
  go_wp2_with fail
  refine (Hop2.out _ hx1).mono ?_
  rintro e w2 ⟨rfl, hx2⟩
  have Hx2 := Lib.hid ((hx1.trans hx2).alloc (zeros g.length))
  have Hr2 := Lib.hid (show IntRow (w2.alloc (zeros g.length)) w2.heap.size (runL 0 g.length 0) from by rw [runL_zero]; exact heap_alloc_self w2 (zeros g.length))
  have Hb2 := Lib.hid (hx1.trans hx2).size
  clear hx1 hx2
  go_wp2_with fail
  generalize w2.alloc (zeros g.length) = w3 at *
  generalize w2.heap.size = B1 at *
  go_loopw [7] (fun u wr => ∃ k : Nat, k ≤ g.length ∧ u = .int .i64 k ∧ Hid (Ext w wr) ∧ Hid (IntRow wr B1 (runL 0 g.length k))) (fun u _ => g.length - (intOf u).toNat)
  case atStart => exact ⟨0, by omega, rfl, Hx2, Hr2⟩
  case round =>
   clear Hx2 Hr2
   obtain ⟨k, hk, rfl, Hx, Hr⟩ := hrel
   by_cases hlt : k < g.length
   ·have c0 := Hr.out.cell k (by rw [runL_length]; exact hlt)
    have f0 := Hr.out.frozen k
    have l0 := Hr.out.lt
    have j0 : (0 : Int) ≤ (k : Int) := by omega
    have j1 : (k : Int) < (g.length : Int) := by omega
    have Hr3 := Lib.hid (Hr.out.set k k)
    have Hset := Lib.hid (show (runL 0 g.length k).set k k = runL 0 g.length (k + 1) from by have h := runL_set 0 hlt; rwa [Nat.zero_add] at h)
    generalize (runL 0 g.length k).getD k 0 = z at *
    go_wp2_with fail
    go_roundw
    case rel => exact ⟨k + 1, by omega, by go_num, Lib.hid (Hx.out.setCell (p := ⟨B1, k, none⟩) Hb2.out _), by rw [← Hset.out]; exact Hr3⟩
    case measure => simp [intOf]; omega
   ·have hkn : k = g.length := by omega
    subst hkn
    have j1 : ¬ ((g.length : Nat) : Int) < (g.length : Int) := by omega
    have Hx3 := Lib.hid (Hx.out.alloc (zeros h.length))
    have Hr3 := Lib.hid (Hr.out.ext ((Ext.refl wr).alloc (zeros h.length)))
    have Hq3 := Lib.hid (show IntRow (wr.alloc (zeros h.length)) wr.heap.size (runL g.length h.length 0) from by rw [runL_zero]; exact heap_alloc_self wr (zeros h.length))
    have Hne := Lib.hid Hr.out.lt
    have Hb3 := Lib.hid Hx.out.size
    clear Hx Hr hlt hk
    go_wp2_with fail
    generalize wr.alloc (zeros h.length) = w4 at *
    generalize wr.heap.size = B2 at *
    obtain ⟨wo, rfl⟩ : ∃ wo : World, wo = wr := ⟨_, rfl⟩
    go_loopw [9] (fun u wr => ∃ k : Nat, k ≤ h.length ∧ u = .int .i64 k ∧ Hid (Ext w wr) ∧ Hid (IntRow wr B1 (runL 0 g.length g.length)) ∧ Hid (IntRow wr B2 (runL g.length h.length k))) (fun u _ => h.length - (intOf u).toNat)
    case atStart => exact ⟨0, by omega, rfl, Hx3, Hr3, Hq3⟩
    case round =>
     clear Hx3 Hr3 Hq3
     obtain ⟨k, hk, rfl, Hx, Hr, Hq⟩ := hrel
     by_cases hlt : k < h.length
     ·have c0 := Hq.out.cell k (by rw [runL_length]; exact hlt)
      have f0 := Hq.out.frozen k
      have l0 := Hq.out.lt
      have j0 : (0 : Int) ≤ (k : Int) := by omega
      have j2 : (k : Int) < (h.length : Int) := by omega
      have Hq3 := Lib.hid (Hq.out.set k (g.length + k))
      have Hset := Lib.hid (runL_set g.length hlt)
      have Hr3 := Lib.hid (Hr.out.other (b' := B2) (i := k) (.int .i64 ((g.length + k : Nat) : Int)) (by have := Hne.out; omega))
      have hcast : ((g.length + k : Nat) : Int) = (g.length : Int) + (k : Int) := by omega
      rw [hcast] at Hq3 Hr3
      generalize (runL g.length h.length k).getD k 0 = z at *
      clear hcast
      go_wp2_with fail
      go_roundw
      case rel => exact ⟨k + 1, by omega, by go_num, Lib.hid (Hx.out.setCell (p := ⟨B2, k, none⟩) Hb3.out _), Hr3, by rw [← Hset.out]; exact Hq3⟩
      case measure => simp [intOf]; omega
     ·have hkn : k = h.length := by omega
      subst hkn
      have j2 : ¬ ((h.length : Nat) : Int) < (h.length : Int) := by omega
      have Hsl1 := Lib.hid (show ∀ w', Ext wr w' → Sl intE w' (.slice (some ⟨B1, 0, none⟩) g.length g.length) (ownI g.length) from fun w' hx => by
       have h := (Hr.out.ext hx).sl g.length (by rw [runL_length]; exact Nat.le_refl _)
       rwa [runL_length, runL_own] at h)
      have Hsl2 := Lib.hid (show ∀ w', Ext wr w' → Sl intE w' (.slice (some ⟨B2, 0, none⟩) h.length h.length) (moreI g.length h.length) from fun w' hx => by
       have h := (Hq.out.ext hx).sl h.length (by rw [runL_length]; exact Nat.le_refl _)
       rwa [runL_length, runL_more] at h)
      have Hxr := Hx
      clear Hx Hr Hq hlt hk
      go_wp2_with fail
      obtain ⟨wp, rfl⟩ : ∃ wp : World, wp = wr := ⟨_, rfl⟩
      go_loopw [10, 11] (fun o u wr => ∃ k : Nat, k ≤ g.length ∧ u = .int .i64 k ∧ Hid (Ext wp wr) ∧ Hid (Own (New w) tyE wr wp.heap.size 42 o ((g.take k).map (turnT fun x => x)))) (fun _ u _ => g.length - (intOf u).toNat)
      case atStart => exact ⟨0, by omega, rfl, Lib.hid (Ext.refl _), Lib.hid (Own.nil _ _ _ _ _)⟩
      case round =>
       obtain ⟨k, hk, rfl, Hx, Hown⟩ := hrel
       have hsz0 := Hxr.out.size
       by_cases hlt : k < g.length
       ·obtain ⟨b, off, vp, vm, vo, rfl, hat, hof⟩ := Hs.out k hlt
        have hsuc := map_take_succ (turnT fun x => x) g k hlt
        rw [← getT_lt hlt] at hat hof hsuc
        have hrt := fun w' (hx : Ext wr w') => rturned_any w' g.length (getT g k) vp vm vo _ (ownI g.length) (hof.mono ((Hxr.out.trans Hx.out).trans hx)) (Hfg.out k hlt) (Hsl1.out w' (Hx.out.trans hx)) (by simp [ownI]; omega) (fun r hr => by simp [ownI]; exact (Hfg.out k hlt).refs r hr)
        rw [Htu1.out k hlt] at hrt
        obtain ⟨A1, c1, e1⟩ := hof.parts.len
        obtain ⟨A2, c2, e2⟩ := hof.methods.len
        obtain ⟨A3, c3, e3⟩ := hof.overs.len
        subst e1 e2 e3
        unfold tyV at hrt
        have Hrt := Lib.hid hrt
        have Hsuc := Lib.hid hsuc
        obtain ⟨d0, d1, d2, d3, d4, d5, d6, d7, d8, d9⟩ := hat.mono (Hxr.out.trans Hx.out)
        have ld := cell_lt d0
        have j0 : (0 : Int) ≤ (k : Int) := by omega
        have j1 : (k : Int) < (g.length : Int) := by omega
        have hlk : ((g.take k).map (turnT fun x => x)).length ≤ k := by simp; omega
        clear hrt hsuc hof hat
        generalize getT g k = t at *
        generalize (g.take k).map (turnT fun x => x) = L at *
        go_wp2_with fail
        refine (Hrt.out _ (Ext.refl _)).mono ?_
        rintro e w5 ⟨v5, rfl, ⟨cs5, hrel, rfl⟩, hx5⟩
        have hown1 := Hown.out.kept hx5
        have Hlt : ∀ k, u10.ownBlock = some k → k < wr.heap.size := fun k hk => (Hown.out.lt k hk).2
        have Hrel : Hid (tyE.rel (fun b => New w b ∧ some b ≠ u10.ownBlock) w5 (turnT (fun x => x) t) cs5) := Lib.hid (tyE.mono _ _ _ _ _ _ (fun _ _ _ => rfl) (fun b hb _ => ⟨by unfold New at hb ⊢; have := Hx.out.size; omega, fun e => by have h1 := Hlt b e.symm; have h2 : _ ≤ b := hb; omega⟩) hrel)
        obtain ⟨_, _, _, rfl, ⟨_, _, rfl, _⟩, ⟨_, _, rfl, _⟩, ⟨_, _, rfl, _⟩⟩ := hrel
        have Hown1 := Lib.hid hown1
        have Hx6 := Lib.hid (Hx.out.trans hx5)
        have hsz := Hx6.out.size
        clear hown1 Hown hx5 Hlt d0 d1 d2 d3 d4 d5 d6 d7 d8 d9 ld
        simp only [pack]
        go_wp2_with (at_builtin; refine own_append tyE wp.heap.size rfl _ _ 23 42 144 rfl slice23 _ _ (turnT (fun x => x) t) _ rfl rfl Hown1.out Hrel.out ?c1 ?c2 ?c3 ?_)
        case c1 => exact hsz
        case c2 => omega
        case c3 => decide
        intro v2 w6 hown2 hg2
        rw [← Hsuc.out] at hown2
        have Hx7 := Lib.hid (show Ext wp w6 from Below.grown Hx6.out hg2 hsz (fun k hk => (Hown1.out.lt k hk).1))
        have Hown2 := Lib.hid hown2
        clear hg2 Hown1 Hx6 Hrel hown2
        go_wp2_with fail
        go_roundw
        case rel => exact ⟨k + 1, by omega, by go_num, Hx7, Hown2⟩
        case measure => simp [intOf]; omega
       ·have hkn : k = g.length := by omega
        subst hkn
        have j1 : ¬ ((g.length : Nat) : Int) < (g.length : Int) := by omega
        have hown := Hown.out
        rw [List.take_length] at hown
        have HownG := Lib.hid hown
        have Hxg := Hx
        clear hown Hown Hx hlt hk
        go_wp2_with fail
        obtain ⟨wq, rfl⟩ : ∃ wq : World, wq = wr := ⟨_, rfl⟩
        go_loopw [10, 12] (fun o u wr => ∃ k : Nat, k ≤ h.length ∧ u = .int .i64 k ∧ Hid (Ext wp wr) ∧ Hid (Own (New w) tyE wr wp.heap.size 42 o (g.map (turnT fun x => x) ++ (h.take k).map (turnT fun x => x + (g.length : Int))))) (fun _ u _ => h.length - (intOf u).toNat)
        case atStart => exact ⟨0, by omega, rfl, Hxg, by rw [List.take_zero, List.map_nil, List.append_nil]; exact HownG⟩
        case round =>
         clear HownG Hxg
         obtain ⟨k, hk, rfl, Hx, Hown⟩ := hrel
         by_cases hlt : k < h.length
         ·obtain ⟨b, off, vp, vm, vo, rfl, hat, hof⟩ := Ht.out k hlt
          have hsuc := map_take_succ (turnT fun x => x + (g.length : Int)) h k hlt
          rw [← getT_lt hlt] at hat hof hsuc
          have hrt := fun w' (hx : Ext wr w') => rturned_any w' h.length (getT h k) vp vm vo _ (moreI g.length h.length) (hof.mono ((Hxr.out.trans Hx.out).trans hx)) (Hfh.out k hlt) (Hsl2.out w' (Hx.out.trans hx)) (by simp [moreI]; omega) (fun r hr => by simp [moreI]; exact (Hfh.out k hlt).refs r hr)
          rw [Htu2.out k hlt] at hrt
          obtain ⟨A1, c1, e1⟩ := hof.parts.len
          obtain ⟨A2, c2, e2⟩ := hof.methods.len
          obtain ⟨A3, c3, e3⟩ := hof.overs.len
          subst e1 e2 e3
          unfold tyV at hrt
          have Hrt := Lib.hid hrt
          have Hsuc := Lib.hid (show g.map (turnT fun x => x) ++ (h.take (k + 1)).map (turnT fun x => x + (g.length : Int)) = _ from by rw [hsuc, ← List.append_assoc])
          obtain ⟨d0, d1, d2, d3, d4, d5, d6, d7, d8, d9⟩ := hat.mono (Hxr.out.trans Hx.out)
          have ld := cell_lt d0
          have j0 : (0 : Int) ≤ (k : Int) := by omega
          have j2 : (k : Int) < (h.length : Int) := by omega
          have hlk : (g.map (turnT fun x => x) ++ (h.take k).map (turnT fun x => x + (g.length : Int))).length ≤ 1048576 := by simp; omega
          clear hrt hsuc hof hat
          generalize getT h k = t at *
          generalize g.map (turnT fun x => x) ++ (h.take k).map (turnT fun x => x + (g.length : Int)) = L at *
          go_wp2_with fail
          refine (Hrt.out _ (Ext.refl _)).mono ?_
          rintro e w5 ⟨v5, rfl, ⟨cs5, hrel, rfl⟩, hx5⟩
          have hown1 := Hown.out.kept hx5
          have Hlt : ∀ k, u10.ownBlock = some k → k < wr.heap.size := fun k hk => (Hown.out.lt k hk).2
          have Hrel : Hid (tyE.rel (fun b => New w b ∧ some b ≠ u10.ownBlock) w5 (turnT (fun x => x + (g.length : Int)) t) cs5) := Lib.hid (tyE.mono _ _ _ _ _ _ (fun _ _ _ => rfl) (fun b hb _ => ⟨by unfold New at hb ⊢; have := Hx.out.size; omega, fun e => by have h1 := Hlt b e.symm; have h2 : _ ≤ b := hb; omega⟩) hrel)
          obtain ⟨_, _, _, rfl, ⟨_, _, rfl, _⟩, ⟨_, _, rfl, _⟩, ⟨_, _, rfl, _⟩⟩ := hrel
          have Hown1 := Lib.hid hown1
          have Hx6 := Lib.hid (Hx.out.trans hx5)
          have hsz := Hx6.out.size
          clear hown1 Hown hx5 Hlt d0 d1 d2 d3 d4 d5 d6 d7 d8 d9 ld
          simp only [pack]
          go_wp2_with (at_builtin; refine own_append tyE wp.heap.size rfl _ _ 23 42 144 rfl slice23 _ _ (turnT (fun x => x + (g.length : Int)) t) _ rfl rfl Hown1.out Hrel.out ?k1 ?k2 ?k3 ?_)
          case k1 => exact hsz
          case k2 => omega
          case k3 => decide
          intro v2 w6 hown2 hg2
          rw [← Hsuc.out] at hown2
          have Hx7 := Lib.hid (show Ext wp w6 from Below.grown Hx6.out hg2 hsz (fun k hk => (Hown1.out.lt k hk).1))
          have Hown2 := Lib.hid hown2
          clear hg2 Hown1 Hx6 Hrel hown2
          go_wp2_with fail
          go_roundw
          case rel => exact ⟨k + 1, by omega, by go_num, Hx7, Hown2⟩
          case measure => simp [intOf]; omega
         ·have hkn : k = h.length := by omega
          subst hkn
          have j2 : ¬ ((h.length : Nat) : Int) < (h.length : Int) := by omega
          have hown := Hown.out
          rw [List.take_length] at hown
          have Hsl := Lib.hid (hown.sl (F := New w) (fun b hb => by have := Hxr.out.size; unfold New; omega)).any
          clear hown
          go_wp2_with fail
          go_ret2
          exact ⟨_, rfl, Hsl.out, Hxr.out.trans Hx.out⟩
end Go.Proofs.YtldnjnnhfeobdaaGreatDoor
/- The law TypesJoin returns true. Conditions: tidy graphs. -/
namespace Go.Proofs.YtldnjnnhfeobdaaGreatDoor
open Go.RowKit Go.Shelf
set_option maxRecDepth 100000 in
set_option maxHeartbeats 16000000 in
theorem join_law (w : World) (gv hv : Value) (g h : Graph) (a : Int) (hg : Sl tyE w gv g) (hT : Tidy g) (hh : Sl tyE w hv h) (hT' : Tidy h) (hG : Glob w) :
  Calls Tryz.prog 11 #[gv, hv, .int .i64 a] w (Ret w (.bool true)) := by
 have Hli := Lib.hid (light_any w gv g hg hT)
 have Hl2 := Lib.hid (fun w' (hx : Ext w w') => light_any w' hv h (hh.mono hx) hT')
 have Hal := Lib.hid (fun w' (hx : Ext w w') => alive_any w' (hG.mono hx))
 have hre := fun w' (hx : Ext w w') => Reach_any w' gv g a (hg.mono hx) hT (hG.mono hx)
 have hrr := fun w' (hx : Ext w w') => rReach_any w' gv g a (hg.mono hx) hT
 have hjo := fun w' (hx : Ext w w') => Join_any w' gv hv g h (hg.mono hx) (hh.mono hx) hT hT' (hG.mono hx)
 have hrj := fun w' (hx : Ext w w') => rJoin_any w' gv hv g h (hg.mono hx) (hh.mono hx) hT hT'
 have hsa := fun w' (hx : Ext w w') => same_any w' gv hv g h (hg.mono hx) (hh.mono hx) hT hT'
 have hrs := fun w' (hx : Ext w w') => rsame_any w' gv hv g h (hg.mono hx) (hh.mono hx) hT hT'
 have hTj := tidy_join hT hT'
 have hl1 := reachI_len hT a
 unfold ReachPost at hre hrr
 unfold JoinPost at hjo hrj
 have hrsj := fun w' u v (hu : Sl tyE w' u (joinG g h)) (hv : Sl tyE w' v (joinG g h)) => rsame_any w' u v _ _ hu hv hTj hTj
 have hs1 := fun w' u v (hu : Sl intE w' u (reachI g a)) (hv : Sl intE w' v (reachI g a)) => sameInts_any w' u v _ _ hu hv hl1 hl1
 simp only [sameGr_refl] at hrsj
 simp only [decide_true] at hs1
 have hjl := hTj.len
 generalize joinG g h = m at *
 generalize joinE g h = ej at *
 generalize reachI g a = rl at *
 generalize errG g [a] = er at *
 generalize sameGr g h = sg at *
 have Hre := Lib.hid hre
 have Hrr := Lib.hid hrr
 have Hjo := Lib.hid hjo
 have Hrj := Lib.hid hrj
 have Hsa := Lib.hid hsa
 have Hrs := Lib.hid hrs
 have Hrsj := Lib.hid hrsj
 have Hs1 := Lib.hid hs1
 obtain ⟨A, cap, eg⟩ := hg.len
 obtain ⟨B, cap', eh⟩ := hh.len
 subst eg eh
 have hn := hT.len
 have hm := hT'.len
 clear hg hh hT hT' hG hre hrr hjo hrj hsa hrs hrsj hs1 hTj
 cases hl : lightG g with
 | false =>
  rw [hl] at Hli
  go_enter Tryz.func11, Tryz.ntmps11
  go_wp2_with fail
  refine Hli.out.mono ?_
  rintro e w1 ⟨rfl, hx1⟩
  go_wp2_with fail
  refine (Hal.out _ hx1).mono ?_
  rintro e w2 ⟨rfl, hx2⟩
  go_wp2_with fail
  go_ret
  exact ⟨rfl, hx1.trans hx2⟩
 | true =>
  rw [hl] at Hli
  clear hl
  cases hl : lightG h with
  | false =>
   rw [hl] at Hl2
   go_enter Tryz.func11, Tryz.ntmps11
   go_wp2_with fail
   refine Hli.out.mono ?_
   rintro e w1 ⟨rfl, hx1⟩
   go_wp2_with fail
   refine (Hl2.out _ hx1).mono ?_
   rintro e w2 ⟨rfl, hx2⟩
   have Hx2 := Lib.hid (hx1.trans hx2)
   clear hx1 hx2
   go_wp2_with fail
   refine (Hal.out _ Hx2.out).mono ?_
   rintro e w3 ⟨rfl, hx3⟩
   go_wp2_with fail
   go_ret
   exact ⟨rfl, Hx2.out.trans hx3⟩
  | true =>
   rw [hl] at Hl2
   clear hl
   go_enter Tryz.func11, Tryz.ntmps11
   go_wp2_with fail
   refine Hli.out.mono ?_
   rintro e w0 ⟨rfl, hx0⟩
   go_wp2_with fail
   refine (Hl2.out _ hx0).mono ?_
   rintro e w1 ⟨rfl, hx1⟩
   have Hx1 := Lib.hid (hx0.trans hx1)
   clear hx0 hx1
   go_wp2_with fail
   refine (Hre.out _ Hx1.out).mono ?_
   rintro e w2 ⟨v2, rfl, hv2, hx2⟩
   have Hx2 := Lib.hid (Hx1.out.trans hx2)
   obtain ⟨A2, c2, e2⟩ := hv2.len
   subst e2
   have Hv2 := Lib.hid hv2
   clear hx2 hv2
   go_wp2_with fail
   refine (Hrr.out _ Hx2.out).mono ?_
   rintro e w3 ⟨v3, rfl, hv3, hx3⟩
   have Hx3 := Lib.hid (Hx2.out.trans hx3)
   obtain ⟨A3, c3, e3⟩ := hv3.len
   subst e3
   have Hv3 := Lib.hid hv3
   replace Hv2 := Lib.hid (Hv2.out.mono hx3)
   clear hx3 hv3
   go_wp2_with fail
   refine (Hjo.out _ Hx3.out).mono ?_
   rintro e w4 ⟨v4, rfl, hv4, hx4⟩
   have Hx4 := Lib.hid (Hx3.out.trans hx4)
   obtain ⟨A4, c4, e4⟩ := hv4.len
   subst e4
   have Hv4 := Lib.hid hv4
   replace Hv2 := Lib.hid (Hv2.out.mono hx4)
   replace Hv3 := Lib.hid (Hv3.out.mono hx4)
   clear hx4 hv4
   go_wp2_with fail
   refine (Hrj.out _ Hx4.out).mono ?_
   rintro e w5 ⟨v6, rfl, hv6, hx5⟩
   have Hx5 := Lib.hid (Hx4.out.trans hx5)
   obtain ⟨A6, c6, e6⟩ := hv6.len
   subst e6
   have Hv6 := Lib.hid hv6
   replace Hv2 := Lib.hid (Hv2.out.mono hx5)
   replace Hv3 := Lib.hid (Hv3.out.mono hx5)
   replace Hv4 := Lib.hid (Hv4.out.mono hx5)
   clear hx5 hv6
   go_wp2_with fail
   refine (Hal.out _ Hx5.out).mono ?_
   rintro e w6 ⟨rfl, hx6⟩
   have Hx6 := Lib.hid (Hx5.out.trans hx6)
   replace Hv2 := Lib.hid (Hv2.out.mono hx6)
   replace Hv3 := Lib.hid (Hv3.out.mono hx6)
   replace Hv4 := Lib.hid (Hv4.out.mono hx6)
   replace Hv6 := Lib.hid (Hv6.out.mono hx6)
   clear hx6
   go_wp2_with fail
   refine (Hs1.out _ _ _ Hv2.out Hv3.out).mono ?_
   rintro e w7 ⟨rfl, hx7⟩
   have Hx7 := Lib.hid (Hx6.out.trans hx7)
   replace Hv4 := Lib.hid (Hv4.out.mono hx7)
   replace Hv6 := Lib.hid (Hv6.out.mono hx7)
   clear hx7
   go_wp2_with fail
   refine (Hrsj.out _ _ _ Hv4.out Hv6.out).mono ?_
   rintro e w9 ⟨rfl, hx9⟩
   have Hx9 := Lib.hid (Hx7.out.trans hx9)
   clear hx9
   go_wp2_with fail
   refine (Hsa.out _ Hx9.out).mono ?_
   rintro e w10 ⟨rfl, hx10⟩
   have Hx10 := Lib.hid (Hx9.out.trans hx10)
   clear hx10
   go_wp2_with fail
   refine (Hrs.out _ Hx10.out).mono ?_
   rintro e w11 ⟨rfl, hx11⟩
   have Hx11 := Lib.hid (Hx10.out.trans hx11)
   clear hx11
   cases sg
   all_goals
    go_wp2_with fail
    go_ret
    exact ⟨rfl, Hx11.out⟩
end Go.Proofs.YtldnjnnhfeobdaaGreatDoor
