/- Parts of the proof, joined: Plain theory: the text of a right type is short. Condition: its words are below 2^20; Contract: the text of a type. Conditions: a right graph, lengths below 2^20; Contracts: text, Text, Print. Conditions: lengths below 2^20; Contracts: Text, Print. Conditions: a tidy graph; for Print a text below 2^20; Contract: light, of the law. Condition: lengths below 2^20; The law's own example: what the plain functions say of it. No program; Contracts: record, lists, of the law. No condition; Contract: alive, of the law. Condition: the tables of the library are laid; A law's arguments, opened: what a reading of a graph, of numbers says of the memory; how a law's answer is told. Bulk at most 2^20; What all laws of the seat share: how their answer is told, what their rows list. No condition; Strings and pairs that a law of the seat is given. No condition. -/
import Derived.Lib.ItoaLen
import Derived.Test.YtldnjnnhfeobdaaGreatDoorRows
import Derived.Deep.Slices
import Derived.Carry
import Derived.OpenShut
import Derived.ProofKit
import Derived.Test.YtldnjnnhfeobdaaGreatDoorCards
import Derived.Test.YtldnjnnhfeobdaaGreatDoorTie
import Derived.WalkKit
import Derived.LaidSub
import Derived.Lay
import Derived.LaidMore
import Derived.SevenTiedAt
import Derived.Stop.Joined
import Derived.Deep.DeepHandedRow
import Derived.Lib.LaidTab
import Derived.ChangeMaps5
import Derived.Test.YtldnjnnhfeobdaaGreatDoorG06
import Derived.Test.YtldnjnnhfeobdaaGreatDoorG08
import Derived.Test.YtldnjnnhfeobdaaGreatDoorG05
import Derived.Test.YtldnjnnhfeobdaaGreatDoorG07
import Derived.Test.YtldnjnnhfeobdaaGreatDoorG03
set_option linter.all false
set_option linter.unusedSimpArgs false
set_option linter.unusedVariables false
namespace Go.Proofs.YtldnjnnhfeobdaaGreatDoor
theorem joinTail_len (m : Nat) : ∀ l : List (List UInt8), (∀ x ∈ l, x.length ≤ m) → (Lib.joinTail [44] l).length ≤ l.length * (m + 1)
 | [], _ => by simp [Lib.joinTail]
 | x :: l, h => by
  rw [joinTail_more, List.length_append, List.length_append]
  have h1 := h x (by simp)
  have h2 := joinTail_len m l (fun y hy => h y (by simp [hy]))
  have e : (x :: l).length * (m + 1) = l.length * (m + 1) + (m + 1) := by rw [List.length_cons, Nat.add_mul, Nat.one_mul]
  rw [e]
  simp only [List.length_cons, List.length_nil]
  omega
theorem join_len (m : Nat) (l : List (List UInt8)) (h : ∀ x ∈ l, x.length ≤ m) : (Lib.join l [44]).length ≤ l.length * (m + 1) := by
 cases l with
 | nil => simp [Lib.join_nil]
 | cons x l =>
  rw [Lib.join_cons, List.length_append]
  have h1 := h x (by simp)
  have h2 := joinTail_len m l (fun y hy => h y (by simp [hy]))
  rw [List.length_cons, Nat.add_mul]
  omega
theorem data_size (s : ByteArray) : s.data.toList.length = s.size := by simp
theorem right_low {g : Graph} {t : Ty} (h : rightB g t = true) : (-1000000000 ≤ t.low ∧ t.low ≤ 1000000000) ∧ -1000000000 ≤ t.high ∧ t.high ≤ 1000000000 := by
 by_cases hk : t.kind = 3
 ·unfold rightB at h
  rw [if_pos hk] at h
  simp only [Bool.and_eq_true, rangedB, inB, decide_eq_true_eq] at h
  omega
 ·obtain ⟨h1, h2⟩ := (right_txt h).low hk
  omega
theorem itoa_small {a : Int} (h : -1000000000 ≤ a ∧ a ≤ 1000000000) : (Lib.itoa a).length ≤ 21 := Lib.itoa_length_le a (by omega) (by omega)
theorem meth_len {num : Int → ByteArray} {m : Method} (hs : MethodSmall m) (ha : m.args.length ≤ 6) (hr : m.raises.length ≤ 6) (hn : ∀ r ∈ refsM m, (num r).size ≤ 64) : (methodTx num m).length ≤ 9437184 := by
 obtain ⟨h1, h2, _, _, h5⟩ := hs
 have e1 : (joinTx (m.args.map num)).length ≤ 6 * 65 := by
  unfold joinTx
  have := join_len 64 ((m.args.map num).map (·.data.toList)) (fun x hx => by
   obtain ⟨y, hy, rfl⟩ := List.mem_map.1 hx
   obtain ⟨r, hr, rfl⟩ := List.mem_map.1 hy
   rw [data_size]
   exact hn r (by unfold refsM; simp [hr]))
  simp only [List.length_map] at this
  omega
 have e2 : (raisesTx m.raises).length ≤ 1 + 6 * 1048577 := by
  unfold raisesTx joinTx
  split
  ·simp
  ·have := join_len 1048576 (m.raises.map (·.data.toList)) (fun x hx => by
    obtain ⟨y, hy, rfl⟩ := List.mem_map.1 hx
    rw [data_size]
    exact h5 y hy)
   simp only [List.length_map] at this
   simp only [List.length_cons]
   omega
 have e3 : (procTx m.proc).length ≤ 1 + 1048576 := by
  unfold procTx
  split
  ·simp
  ·simp only [List.length_cons, data_size]; omega
 have e4 : (resultTx num m.result).length ≤ 64 := by
  unfold resultTx
  split
  ·simp
  ·rw [data_size]
   exact hn _ (by unfold refsM; rw [if_pos (by omega)]; simp)
 unfold methodTx
 simp only [List.length_append, List.length_cons, List.length_nil, data_size]
 omega
theorem line_len {g : Graph} {t : Ty} (hr : rightB g t = true) (hs : TySmall t) {num : Int → ByteArray} (hn : ∀ r ∈ refsL t, (num r).size ≤ 64) : (lineTx num t).length ≤ 134217728 := by
 have hf := right_fine hr
 obtain ⟨hl1, hl2⟩ := right_low hr
 have b1 := itoa_small hl1
 have b2 := itoa_small hl2
 have b3 := itoa_small (a := t.kind) (by have := hf.kind; omega)
 have e1 : (midTx t).length ≤ 1048600 := by
  have h1 := hs.brand
  have h2 := hs.opaq
  unfold midTx
  split
  ·simp only [List.length_append, List.length_cons, List.length_nil]; omega
  split
  ·split
   ·simp only [List.length_append, List.length_cons, List.length_nil, data_size]; omega
   ·simp
  split
  ·simp only [List.length_append, List.length_cons, List.length_nil, data_size]; omega
  ·simp
 have e2 : (superTx num t).length ≤ 65 := by
  unfold superTx
  split
  ·rename_i h
   simp only [List.length_append, List.length_cons, List.length_nil, data_size]
   have := hn t.super (by unfold refsL refsS; rw [h]; simp)
   omega
  ·simp
 have e3 := flatMap_le (partTx num) 1048700 t.parts (fun p hp => by
  unfold partTx
  simp only [List.length_append, List.length_cons, List.length_nil, data_size]
  have h1 := hn _ (refs_part hp)
  have h2 := hs.part p hp
  omega)
 have e4 := flatMap_le (methodTx num) 9437184 t.methods (fun m hm => meth_len (hs.method m hm) (hf.args m hm) (hf.raises m hm) (fun r hr => hn r (refs_meth hm hr)))
 have e5 := flatMap_le overTx 2097160 t.overs (fun o ho => by
  unfold overTx
  simp only [List.length_append, List.length_cons, List.length_nil, data_size]
  have := hs.over o ho
  omega)
 have h6 := hf.parts
 have h7 := hf.methods
 have h8 := hf.overs
 unfold lineTx
 simp only [List.length_append, List.length_cons, List.length_nil]
 have e6 : t.parts.length * 1048700 ≤ 8 * 1048700 := Nat.mul_le_mul_right _ h6
 have e7 : t.methods.length * 9437184 ≤ 8 * 9437184 := Nat.mul_le_mul_right _ h7
 have e8 : t.overs.length * 2097160 ≤ 8 * 2097160 := Nat.mul_le_mul_right _ h8
 omega
end Go.Proofs.YtldnjnnhfeobdaaGreatDoor
/- Contract: the text of a type. Conditions: a right graph, lengths below 2^20. -/
namespace Go.Proofs.YtldnjnnhfeobdaaGreatDoor
open Go.RowKit Go.Shelf
theorem reach_any (w : World) (gv : Value) (g : Graph) (a : Nat) (f : Nat) (cb : Array Value) (cls : Nat → Nat) (hg : Sl tyE w gv g) (hn : g.length ≤ 1048576) (hW : WF g) (ha : a < g.length) (hc : ∀ i, i < g.length → cls i < g.length) (hS : SameP w f cb cls g.length) :
  Calls Tryz.prog 87 #[.agg #[gv], .int .i64 (a : Int), .func (.func f) #[] cb] w (RetP w (ResSl intE w ((reachN cls (refsN g) (g.length + 1) 0 [a]).map fun (n : Nat) => (n : Int)))) :=
 ((callsIn_wide (n := 6)).1 (reach_in w gv g a f cb cls hg hn hW ha hc hS)).mono fun e w' ⟨v, he, hr, hx⟩ => ⟨v, he, ownsRow_sl (by rw [List.length_map, List.map_map]; exact hr), hx⟩
def numF (cls : Nat → Nat) (out : List Nat) (r : Int) : ByteArray := ⟨(Lib.itoa ((if cls r.toNat ∈ out.map cls then posN cls (cls r.toNat) out else 0 : Nat) : Int)).toArray⟩
/-- the places of classes, as a map -/
def posF (cls : Nat → Nat) (l : List Nat) : Int → Option Value := fun q => if q ∈ (l.map cls).map (fun (n : Nat) => (n : Int)) then some (.int .i64 (posN cls q.toNat l : Nat)) else none
theorem posF_nil (cls : Nat → Nat) : posF cls [] = fun _ => none := by funext q; simp [posF]
theorem posF_getD (cls : Nat → Nat) (l : List Nat) (c : Nat) : (posF cls l (c : Int)).getD (.int .i64 0) = .int .i64 ((if c ∈ l.map cls then posN cls c l else 0 : Nat) : Int) := by
 unfold posF
 by_cases h : c ∈ l.map cls
 ·rw [if_pos (cast_mem.2 h), if_pos h, Int.toNat_natCast]; rfl
 ·rw [if_neg (fun h' => h (cast_mem.1 h')), if_neg h]; rfl
theorem posF_put {cls : Nat → Nat} {l : List Nat} {x : Nat} (h : cls x ∉ l.map cls) : put (posF cls l) (cls x : Int) (.int .i64 (l.length : Int)) = posF cls (l ++ [x]) := by
 funext q
 unfold put posF
 by_cases e : q = (cls x : Int)
 ·subst e
  rw [if_pos rfl, if_pos (cast_mem.2 (by simp)), Int.toNat_natCast, posN_snoc, if_neg h, if_pos rfl, Nat.add_zero]
 ·rw [if_neg e]
  have hiff : q ∈ ((l ++ [x]).map cls).map (fun (n : Nat) => (n : Int)) ↔ q ∈ (l.map cls).map (fun (n : Nat) => (n : Int)) := by
   rw [List.map_append, List.map_append, List.mem_append, List.map_cons, List.map_nil, List.map_cons, List.map_nil, List.mem_singleton]
   exact ⟨fun h' => h'.elim id (fun e' => absurd e' e), .inl⟩
  by_cases h2 : q ∈ (l.map cls).map (fun (n : Nat) => (n : Int))
  ·rw [if_pos h2, if_pos (hiff.2 h2)]
   obtain ⟨c, hc, rfl⟩ := List.mem_map.1 h2
   rw [Int.toNat_natCast, posN_snoc, if_pos hc]
  ·rw [if_neg h2, if_neg (fun h' => h2 (hiff.1 h'))]
theorem posN_le (cls : Nat → Nat) (c : Nat) : ∀ l : List Nat, posN cls c l ≤ l.length
 | [] => by simp [posN]
 | x :: l => by
  have := posN_le cls c l
  unfold posN
  split <;> simp <;> omega
theorem zeroInt' (w : World) : (zeroValue 3).run Tryz.prog w = .ok (.int .i64 0) w := by kernel_rfl
section
variable {w wr wr' : World} {b3 b5 b8 mb : Nat} {gv vc : Value} {cs : List Nat} {n : Nat} {cls : Nat → Nat} {l : List Nat}
theorem class_cell {A : Option Addr} {m c : Nat} (h : Sl intE w (.slice A m c) (cs.map fun (n : Nat) => (n : Int))) (i : Nat) (hi : i < cs.length) : m = cs.length ∧ ∃ b off, A = some ⟨b, off, none⟩ ∧ w.cell? ⟨b, off + i, none⟩ = some (.int .i64 (cs.getD i 0 : Nat)) := by
 obtain ⟨A', c', e, hc⟩ := Sl.nat h
 simp only [Value.slice.injEq] at e
 obtain ⟨rfl, rfl, _⟩ := e
 exact ⟨rfl, hc i hi⟩
set_option maxRecDepth 100000 in
theorem text1_any (i : Nat) (hb : Boxed w b5 24 vc) (hs : Sl intE w vc (cs.map fun (n : Nat) => (n : Int))) (hi : i < cs.length) (hn : cs.length ≤ 1048576) :
  Calls Tryz.prog 111 #[.int .i64 i, .pointer (some ⟨b5, 0, none⟩)] w fun e w' => e = .returned (.int .i64 (cs.getD i 0 : Nat)) ∧ w' = w := by
 obtain ⟨A, c, rfl⟩ := hs.len
 rw [List.length_map] at hb hs
 obtain ⟨_, b, off, rfl, c1⟩ := class_cell hs i hi
 have c0 := hb.cell
 have l0 := cell_lt c0
 have l1 := cell_lt c1
 have i0 : (0 : Int) ≤ (i : Int) := by omega
 have i1 : (i : Int) < (cs.length : Int) := by omega
 clear hb hs
 go_enter Tryz.func111, Tryz.ntmps111
 go_wp2_with fail
 go_ret
 exact ⟨rfl, rfl⟩
theorem same111 (hb : Boxed w b5 24 vc) (hs : Sl intE w vc (cs.map fun (n : Nat) => (n : Int))) (hn : cs.length ≤ 1048576) : SameP w 111 #[.pointer (some ⟨b5, 0, none⟩)] (fun i => cs.getD i 0) cs.length :=
 ⟨enters_of Tryz.func111 (by kernel_rfl) rfl, fun i hi w' hx => text1_any i (Boxed.ext hb hx) (hs.mono hx) hi hn⟩
set_option maxRecDepth 100000 in
set_option maxHeartbeats 1000000 in
theorem text2_any (i : Nat) (hb : Boxed w b5 24 vc) (hs : Sl intE w vc (cs.map fun (n : Nat) => (n : Int))) (hi : i < cs.length) (hn : cs.length ≤ 1048576) (hm : Boxed w b8 140 (.map (some mb))) (hmp : MapF (intK Tryz.underlying3) w mb (posF (fun i => cs.getD i 0) l)) (hl : l.length ≤ 1048576) (hG : Glob w) :
  Calls Tryz.prog 112 #[.int .i64 i, .pointer (some ⟨b8, 0, none⟩), .pointer (some ⟨b5, 0, none⟩)] w (Ret w (.string (numF (fun i => cs.getD i 0) l i))) := by
 obtain ⟨A, c, rfl⟩ := hs.len
 rw [List.length_map] at hb hs
 obtain ⟨_, b, off, rfl, c1⟩ := class_cell hs i hi
 have c0 := hb.cell
 have c8 := hm.cell
 have l0 := cell_lt c0
 have l1 := cell_lt c1
 have l8 := cell_lt c8
 have i0 : (0 : Int) ≤ (i : Int) := by omega
 have i1 : (i : Int) < (cs.length : Int) := by omega
 have hpl := posN_le (fun i => cs.getD i 0)
 have hlk := (hmp.ext (Ext.refl w).drew).lookup Tryz.underlying140 (zeroInt' w.drew) ((cs.getD i 0 : Nat) : Int)
 rw [posF_getD] at hlk
 replace hlk : (Instr.lookup 140 (.map (some mb)) (.int .i64 ((cs.getD i 0 : Nat) : Int)) false).run Tryz.prog w.drew = .ok (.int .i64 ((if cs.getD i 0 ∈ l.map (fun i => cs.getD i 0) then posN (fun i => cs.getD i 0) (cs.getD i 0) l else 0 : Nat) : Int)) w.drew := hlk
 unfold numF
 rw [Int.toNat_natCast]
 have hq := hpl (cs.getD i 0) l
 have hp : ((if cs.getD i 0 ∈ l.map (fun i => cs.getD i 0) then posN (fun i => cs.getD i 0) (cs.getD i 0) l else 0 : Nat) : Int) ≤ 1048576 := by split <;> omega
 generalize (if cs.getD i 0 ∈ l.map (fun i => cs.getD i 0) then posN (fun i => cs.getD i 0) (cs.getD i 0) l else 0 : Nat) = q at *
 have hit := itoa_any (q : Int) (by omega) (by omega) w.drew (hG.mono (Ext.refl w).drew)
 have Hit := Lib.hid hit
 generalize cs.getD i 0 = ci at *
 clear hb hs hmp hm hpl hq hG hit
 go_enter Tryz.func112, Tryz.ntmps112
 go_wp2_with fail
 go_still_tail 6, (by kernel_rfl)
 change wpList _ _ _ _ _ w.drew
 go_wp2_with fail
 refine Hit.out.mono ?_
 rintro e w1 ⟨rfl, hx1⟩
 go_wp2_with fail
 go_ret
 exact ⟨rfl, (Ext.refl w).drew.trans hx1⟩
end
end Go.Proofs.YtldnjnnhfeobdaaGreatDoor
/- Contracts: text, Text, Print. Conditions: lengths below 2^20. -/
namespace Go.Proofs.YtldnjnnhfeobdaaGreatDoor
open Go.RowKit Go.Shelf
structure TSt (w : World) (b3 b5 b8 mb : Nat) (gv vc va : Value) (cs out : List Nat) (l : List Nat) (wr : World) : Prop where
 ext : Ext w wr
 gbox : Boxed wr b3 77 gv
 cbox : Boxed wr b5 24 vc
 mbox : Boxed wr b8 140 (.map (some mb))
 map : MapF (intK Tryz.underlying3) wr mb (posF (fun i => cs.getD i 0) l)
 cls : SlF (fun b => b < mb) intE wr vc (cs.map fun (n : Nat) => (n : Int))
 all : SlF (fun b => b < mb) intE wr va (out.map fun (n : Nat) => (n : Int))
 nb : w.heap.size ≤ mb
section
variable {w wr wr' : World} {b3 b5 b8 mb : Nat} {gv vc va : Value} {cs out l : List Nat}
theorem TSt.later (h : TSt w b3 b5 b8 mb gv vc va cs out l wr) (hx : Ext wr wr') : TSt w b3 b5 b8 mb gv vc va cs out l wr' :=
 ⟨h.ext.trans hx, Boxed.ext h.gbox hx, Boxed.ext h.cbox hx, Boxed.ext h.mbox hx, h.map.ext hx, h.cls.ext hx, h.all.ext hx, h.nb⟩
theorem TSt.put (h : TSt w b3 b5 b8 mb gv vc va cs out l wr) {x : Nat} (hx : cs.getD x 0 ∉ l.map (fun i => cs.getD i 0)) (hm : MapF (intK Tryz.underlying3) wr' mb (put (posF (fun i => cs.getD i 0) l) ((cs.getD x 0 : Nat) : Int) (.int .i64 (l.length : Int)))) (hg : wr.grownBy wr' (some mb)) :
  TSt w b3 b5 b8 mb gv vc va cs out (l ++ [x]) wr' := by
 have hk : ∀ b t u, Boxed wr b t u → Boxed wr' b t u := fun b t u hb => (hg.block b (Array.getElem?_eq_some_iff.1 (show wr.heap[b]? = _ from hb)).1 (fun e => Boxed.ne_map hb h.map (by injection e))).trans hb
 have hs : ∀ b, b < mb → b < wr.heap.size → wr'.heap[b]? = wr.heap[b]? := fun b hb hlt => hg.block b hlt (fun e => by injection e with e; omega)
 exact ⟨Below.grown h.ext hg h.ext.size (fun k hk => by cases hk; exact h.nb), hk _ _ _ h.gbox, hk _ _ _ h.cbox, hk _ _ _ h.mbox, by rw [← posF_put (cls := fun i => cs.getD i 0) hx]; exact hm, h.cls.mono hs (fun _ h _ => h), h.all.mono hs (fun _ h _ => h), h.nb⟩
end
theorem textG_numF (g : Graph) (h : WF g) {a : Nat} (ha : a < g.length) : textG g a = (reachG g a).flatMap fun i => lineTx (numF (clsG g) (reachG g a)) (getT g i) := by
 unfold textG
 have I := reachG_inv h ha
 have key : ∀ l : List Nat, (∀ i ∈ l, i ∈ reachG g a) → (l.flatMap fun i => lineTx (numB (clsG g) (reachG g a)) (getT g i)) = l.flatMap fun i => lineTx (numF (clsG g) (reachG g a)) (getT g i) := by
  intro l hl
  induction l with
  | nil => rfl
  | cons i l ih =>
   rw [List.flatMap_cons, List.flatMap_cons, ih (fun j hj => hl j (by simp [hj]))]
   congr 1
   refine line_congr (byF_agree.refl _) (List.map_congr_left fun r hr => ?_)
   obtain ⟨k, hk⟩ := List.mem_iff_getElem?.1 (hl i (by simp))
   have hm := I.past k i (List.getElem?_eq_some_iff.1 hk).1 hk r.toNat (by unfold refsN; exact List.mem_map_of_mem hr)
   unfold numB numF
   rw [if_pos hm]
 exact key _ (fun i hi => hi)
theorem numF_size (cls : Nat → Nat) {out : List Nat} (h : out.length ≤ 1048576) (r : Int) : (numF cls out r).size ≤ 64 := by
 have hp := posN_le cls (cls r.toNat) out
 have h2 := itoa_small (a := ((if cls r.toNat ∈ out.map cls then posN cls (cls r.toNat) out else 0 : Nat) : Int)) (by split <;> omega)
 show (Lib.itoa _).toArray.size ≤ 64
 rw [List.size_toArray]
 omega
theorem text_num {w wq : World} {b3 b5 b8 mb n : Nat} {gv vc va : Value} {cs out l : List Nat} (h : TSt w b3 b5 b8 mb gv vc va cs out l wq) (hc : cs.length = n) (hn : n ≤ 1048576) (hl : l.length ≤ 1048576) (hG : Glob wq) :
  NumP wq wq.heap.size 112 #[.pointer (some ⟨b8, 0, none⟩), .pointer (some ⟨b5, 0, none⟩)] (numF (fun i => cs.getD i 0) l) (fun i => 0 ≤ i ∧ i < n) := by
 refine ⟨enters_of Tryz.func112 (by kernel_rfl) rfl, fun i hi w' hx => ?_⟩
 obtain ⟨k, rfl⟩ := Int.eq_ofNat_of_zero_le hi.1
 have h' := h.later (show Ext wq w' from hx)
 exact text2_any k h'.cbox h'.cls.any (by omega) (by omega) h'.mbox h'.map hl (hG.mono hx)
theorem flat_len {α : Type} (f : α → List UInt8) (m : Nat) : ∀ l : List α, (∀ x ∈ l, (f x).length ≤ m) → (l.flatMap f).length ≤ l.length * m
 | [], _ => by simp
 | x :: l, h => by
  have h1 := h x (by simp)
  have h2 := flat_len f m l (fun y hy => h y (by simp [hy]))
  rw [List.flatMap_cons, List.length_append, List.length_cons, Nat.add_mul]
  omega
theorem same111n {w : World} {b5 n : Nat} {vc : Value} {cs : List Nat} (e : cs.length = n) (hb : Boxed w b5 24 vc) (hs : Sl intE w vc (cs.map fun (n : Nat) => (n : Int))) (hn : cs.length ≤ 1048576) : SameP w 111 #[.pointer (some ⟨b5, 0, none⟩)] (fun i => cs.getD i 0) n := by
 subst e; exact same111 hb hs hn
set_option maxRecDepth 100000 in
set_option maxHeartbeats 16000000 in
theorem text_any (w : World) (gv vc : Value) (g : Graph) (a : Nat) (hg : Sl tyE w gv g) (hT : Tidy g) (hW : WF g) (hG : Glob w) (ha : a < g.length) (hvc : Sl intE w vc ((classesG g).map fun (n : Nat) => (n : Int))) :
  Calls Tryz.prog 61 #[.agg #[gv], .int .i64 (a : Int), vc] w (Ret w (.string ⟨(textG g a).toArray⟩)) := by
 have hn := hT.len
 have hn4 := hW.len
 have hcl := classesG_length g hW
 have hI := reachG_inv hW ha
 have hcn : ∀ i, i < g.length → (classesG g).getD i 0 < g.length := fun i hi => clsG_lt hW hi
 have hol := hI.len (fun i hi => clsG_lt hW hi)
 rw [textG_numF g hW ha]
 have hout : reachG g a = reachN (fun i => (classesG g).getD i 0) (refsN g) (g.length + 1) 0 [a] := rfl
 have hreach := fun (w' : World) (hx : Ext w w') (hS : SameP w' 111 #[.pointer (some ⟨w.heap.size + 1, 0, none⟩)] (fun i => (classesG g).getD i 0) g.length) => reach_any w' gv g a 111 _ _ (hg.mono hx) hn hW ha hcn hS
 rw [← hout] at hreach
 change (∀ i, i < g.length → _) at hcn
 have hcf : clsG g = fun i => (classesG g).getD i 0 := rfl
 rw [hcf] at hI ⊢
 generalize reachG g a = out at *
 generalize classesG g = cs at *
 have hnd := hI.nodup
 have hrng := hI.rng
 have hlt0 : 0 < out.length := (List.getElem?_eq_some_iff.1 hI.start).1
 have hright := hW.right
 have hfine := fun i (hi : i < g.length) => hW.fine (getT_mem hi)
 have hty := hT.ty
 have hmm := @run_makeMap Tryz.prog
 have hgty := hg.ty
 obtain ⟨A, cap, rfl⟩ := hg.len
 obtain ⟨Ac, cc, ec⟩ := hvc.len
 subst ec
 rw [List.length_map] at hvc ⊢
 have Hreach := Lib.hid hreach
 have Hg := Lib.hid hg
 have Hvc := Lib.hid hvc
 have HI := Lib.hid hI
 have Hnd := Lib.hid hnd
 have Hrng := Lib.hid hrng
 have Hright := Lib.hid hright
 have Hfine := Lib.hid hfine
 have Hty := Lib.hid hty
 have Hgty := Lib.hid hgty
 have HG := Lib.hid hG
 have Hcl := Lib.hid hcl
 have Hcn := Lib.hid hcn
 clear hreach hvc hI hnd hrng hright hfine hty hgty hG hg hT hW hout hcl hcn hcf
 go_enter Tryz.func61, Tryz.ntmps61
 go_wp2_with fail
 have hx0 := ((Ext.refl w).alloc (.cells #[.slice A g.length cap] 77)).alloc (.cells #[.slice Ac cs.length cc] 24)
 have e1 := heap_alloc_self w (.cells #[.slice A g.length cap] 77)
 have e2 := heap_alloc_self (w.alloc (.cells #[.slice A g.length cap] 77)) (.cells #[.slice Ac cs.length cc] 24)
 rw [World.size_alloc] at e2
 refine (Hreach.out _ hx0 (same111n (Hcl.out) e2 (Hvc.out.mono hx0) (by rw [Hcl.out]; exact hn))).mono ?_
 rintro e w1 ⟨va, rfl, hva, hx1⟩
 obtain ⟨Aa, ca, ea⟩ := hva.any.len
 rw [List.length_map] at ea
 subst ea
 have hst : TSt w w.heap.size (w.heap.size + 1) (w1.heap.size + 1) w1.heap.size (.slice A g.length cap) (.slice Ac cs.length cc) (.slice Aa out.length ca) cs out [] ((w1.alloc (.map #[] 0)).alloc (.cells #[.map (some w1.heap.size)] 140)) := by
  have hx2 := (((Ext.refl w1).alloc (.map #[] 0)).alloc (.cells #[.map (some w1.heap.size)] 140))
  have e3 := heap_alloc_self (w1.alloc (.map #[] 0)) (.cells #[.map (some w1.heap.size)] 140)
  rw [World.size_alloc] at e3
  have hsz := hx1.size
  rw [World.size_alloc, World.size_alloc] at hsz
  refine ⟨(hx0.trans hx1).trans hx2, ?_, ?_, e3, ?_, ?_, ?_, by omega⟩
  ·exact Boxed.ext (Boxed.ext (Boxed.ext e1 ((Ext.refl _).alloc _)) hx1) hx2
  ·exact Boxed.ext (Boxed.ext e2 hx1) hx2
  ·rw [posF_nil]; exact (MapF.made _ _).ext ((Ext.refl _).alloc _)
  ·exact (SlF.mono (G := fun b => b < w1.heap.size) ((Hvc.out.mono hx0).mono hx1) (fun _ _ _ => rfl) (fun b _ hlt => hlt)).ext hx2
  ·exact (SlF.mono (G := fun b => b < w1.heap.size) hva (fun _ _ _ => rfl) (fun b _ hlt => hlt)).ext hx2
 have Hst := Lib.hid hst
 clear hst hva hx1 e1 e2 hx0
 go_wp2_with fail
 generalize (w1.alloc (.map #[] 0)).alloc (.cells #[.map (some w1.heap.size)] 140) = w2 at Hst ⊢
 generalize w1.heap.size = mb at Hst ⊢
 generalize hb3 : w.heap.size = b3 at *
 go_loopw [21] (fun u wr => ∃ k : Nat, k ≤ out.length ∧ u = .int .i64 k ∧ Hid (TSt w b3 (b3 + 1) (mb + 1) mb (.slice A g.length cap) (.slice Ac cs.length cc) (.slice Aa out.length ca) cs out (out.take k) wr)) (fun u _ => out.length - (intOf u).toNat)
 case atStart => exact ⟨0, by omega, rfl, Hst⟩
 case round =>
  clear Hst
  obtain ⟨k, hk, rfl, Hst⟩ := hrel
  by_cases hlt : k < out.length
  ·obtain ⟨ba, oa, rfl, ca0⟩ := (class_cell Hst.out.all.any k hlt).2
   have hx : out.getD k 0 < g.length := Hrng.out _ (by rw [List.getD_eq_getElem?_getD, List.getElem?_eq_getElem hlt]; exact List.getElem_mem hlt)
   have hsn : out.take (k + 1) = out.take k ++ [out.getD k 0] := by
    rw [List.take_add_one, List.getElem?_eq_getElem hlt, List.getD_eq_getElem?_getD, List.getElem?_eq_getElem hlt]; rfl
   have hni : cs.getD (out.getD k 0) 0 ∉ (out.take k).map (fun i => cs.getD i 0) := by
    have h := Hnd.out
    rw [← List.take_append_drop (k + 1) out, hsn, List.map_append, List.map_append] at h
    have h2 := (List.nodup_append.1 h).1
    intro hm
    exact (List.nodup_append.1 h2).2.2 _ hm _ (by simp) rfl
   have hlk : (out.take k).length = k := by rw [List.length_take]; omega
   generalize hxd : out.getD k 0 = x at *
   obtain ⟨_, bc, oc, ec, cc0⟩ := class_cell Hst.out.cls.any x (by rw [Hcl.out]; exact hx)
   subst ec
   have cm := Hst.out.mbox.cell
   have cb := Hst.out.cbox.cell
   have i0 : (0 : Int) ≤ (k : Int) := by omega
   have i1 : (k : Int) < (out.length : Int) := by omega
   have i2 : (0 : Int) ≤ (x : Int) := by omega
   have i3 : (x : Int) < (cs.length : Int) := by rw [Hcl.out]; omega
   have la := cell_lt ca0
   have lc := cell_lt cc0
   have lm := cell_lt cm
   have lb := cell_lt cb
   have hx20 : (x : Int) ≤ 1048576 := by omega
   have Hni := Lib.hid hni
   have Hsn := Lib.hid hsn
   have Hlk := Lib.hid hlk
   clear hni hsn hlk hk hx hxd
   go_wp2_with fail
   go_still_tail 6, (by kernel_rfl)
   change wpList _ _ _ _ _ wr.drew
   go_wp2_with (at_mapUpdate; refine wpList_update_F (intK Tryz.underlying3) (by rfl) _ _ _ 140 3 (by rfl) Tryz.underlying140 mb (posF (fun i => cs.getD i 0) (out.take k)) ((cs.getD x 0 : Nat) : Int) (by rfl) (by rfl) (Hst.out.map.ext (Ext.refl _).drew) ?_; intro w5 hm5 hg5)
   go_roundw
   case rel => exact ⟨k + 1, by omega, by go_num, by rw [Hsn.out]; exact Lib.hid ((Hst.out.later (Ext.refl _).drew).put Hni.out (by rw [Hlk.out]; exact hm5) hg5)⟩
   case measure => simp [intOf]; omega
  ·have hkn : k = out.length := by omega
   subst hkn
   rw [List.take_length] at Hst
   clear hk hlt
   go_wp2_with fail
   have hG2 := HG.out.mono Hst.out.ext
   have hnum := text_num Hst.out Hcl.out hn (by omega) hG2
   have hwr : Wr (wr.alloc (.cells #[.pointer none, .slice none 0 0, .func (.func 112) #[] #[.pointer (some ⟨mb + 1, 0, none⟩), .pointer (some ⟨b3 + 1, 0, none⟩)]] 147)) wr.heap.size wr.heap.size (.func (.func 112) #[] #[.pointer (some ⟨mb + 1, 0, none⟩), .pointer (some ⟨b3 + 1, 0, none⟩)]) [] [] :=
    ⟨Nat.le_refl _, ⟨_, _, .inl rfl, heap_alloc_self _ _, World.ownsRow_nil _ _ _ _, by simp [Value.ownBlock]⟩, by simp⟩
   have hgw := Hg.out.mono Hst.out.ext
   obtain ⟨Ag, cg, eg, hs⟩ := hgw.ty
   simp only [Value.slice.injEq, true_and] at eg
   obtain ⟨rfl, rfl⟩ := eg
   have hline := fun (i : Nat) (hi : i < g.length) (l : List UInt8) (w' : World) (hx : Ext wr w') (hW : Wr w' wr.heap.size wr.heap.size (.func (.func 112) #[] #[.pointer (some ⟨mb + 1, 0, none⟩), .pointer (some ⟨b3 + 1, 0, none⟩)]) l []) (vp vm vo : Value) (hof : TyOf wr (getT g i) vp vm vo) (hl : l.length ≤ 60000000000) =>
    line_any wr w' wr.heap.size wr.heap.size 112 _ _ _ l [] g.length (getT g i) vp vm vo hx (Nat.le_refl _) hW hx.size (hnum.later hx) hof (Hfine.out i hi) (fun i h1 h2 => ⟨h1, h2⟩) hG2 (Hty.out _ (getT_mem hi)).1 (fun i _ => by have := numF_size (fun i => cs.getD i 0) (out := out) (by omega) i; omega)
     (by have := (right_low (Hright.out _ (getT_mem hi))).1; omega) (by have := (right_low (Hright.out _ (getT_mem hi))).2; omega) (by have := itoa_small (right_low (Hright.out _ (getT_mem hi))).1; omega) (by have := itoa_small (right_low (Hright.out _ (getT_mem hi))).2; omega)
     (by have := line_len (Hright.out _ (getT_mem hi)) (Hty.out _ (getT_mem hi)).1 (num := numF (fun i => cs.getD i 0) out) (fun r _ => numF_size _ (by omega) r); omega)
   have hlen : ∀ k, ((out.take k).flatMap fun i => lineTx (numF (fun i => cs.getD i 0) out) (getT g i)).length ≤ 53687091200 := fun k => by
    have h1 := flat_len (fun i => lineTx (numF (fun i => cs.getD i 0) out) (getT g i)) 134217728 (out.take k) (fun i hi => line_len (Hright.out _ (getT_mem (Hrng.out i (List.mem_of_mem_take hi)))) (Hty.out _ (getT_mem (Hrng.out i (List.mem_of_mem_take hi)))).1 (fun r _ => numF_size _ (by omega) r))
    have h2 : (out.take k).length ≤ 400 := by rw [List.length_take]; omega
    have h3 := Nat.mul_le_mul_right 134217728 h2
    omega
   have hne : (out.flatMap fun i => lineTx (numF (fun i => cs.getD i 0) out) (getT g i)) ≠ [] := by
    cases out with
    | nil => simp at hlt0
    | cons x l => simp [lineTx]
   have Hline := Lib.hid hline
   have Hlen := Lib.hid hlen
   have Hne := Lib.hid hne
   have Hwr := Lib.hid hwr
   have Hs := Lib.hid hs
   clear hline hlen hne hwr hs hgw hnum hG2
   obtain ⟨wo, rfl⟩ : ∃ wo : World, wo = wr := ⟨_, rfl⟩
   go_loopw [38] (fun u wr => ∃ k : Nat, k ≤ out.length ∧ u = .int .i64 k ∧ Hid (Ext wo wr) ∧ Hid (Wr wr wo.heap.size wo.heap.size (.func (.func 112) #[] #[.pointer (some ⟨mb + 1, 0, none⟩), .pointer (some ⟨b3 + 1, 0, none⟩)]) ((out.take k).flatMap fun i => lineTx (numF (fun i => cs.getD i 0) out) (getT g i)) [])) (fun u _ => out.length - (intOf u).toNat)
   case atStart => exact ⟨0, by omega, rfl, Lib.hid ((Ext.refl wo).alloc _), Hwr⟩
   case round =>
    clear Hwr
    obtain ⟨k, hk, rfl, Hx, Hw⟩ := hrel
    by_cases hlt : k < out.length
    ·obtain ⟨ba, oa, rfl, ca0⟩ := (class_cell (Hst.out.later Hx.out).all.any k hlt).2
     have hx : out.getD k 0 < g.length := Hrng.out _ (by rw [List.getD_eq_getElem?_getD, List.getElem?_eq_getElem hlt]; exact List.getElem_mem hlt)
     have hsn : out.take (k + 1) = out.take k ++ [out.getD k 0] := by
      rw [List.take_add_one, List.getElem?_eq_getElem hlt, List.getD_eq_getElem?_getD, List.getElem?_eq_getElem hlt]; rfl
     generalize hxd : out.getD k 0 = x at *
     obtain ⟨b, off, vp, vm, vo, rfl, hat, hof⟩ := Hs.out x hx
     rw [← getT_lt hx] at hat hof
     have hli := Hline.out x hx _ wr Hx.out Hw.out vp vm vo hof (by have := Hlen.out k; omega)
     unfold tyV at hli
     have Hli := Lib.hid hli
     obtain ⟨d0, d1, d2, d3, d4, d5, d6, d7, d8, d9⟩ := hat.mono Hx.out
     have cg := (Hst.out.later Hx.out).gbox.cell
     have i0 : (0 : Int) ≤ (k : Int) := by omega
     have i1 : (k : Int) < (out.length : Int) := by omega
     have i2 : (0 : Int) ≤ (x : Int) := by omega
     have i3 : (x : Int) < (g.length : Int) := by omega
     have la := cell_lt ca0
     have ld := cell_lt d0
     have lg := cell_lt cg
     have Hsn := Lib.hid hsn
     have Hxw := Lib.hid hx
     clear hsn hx hxd hof hat hli hk
     generalize htx : getT g x = t at *
     have Htx := Lib.hid htx
     clear htx
     go_wp2_with fail
     refine Hli.out.mono ?_
     rintro e w9 ⟨rfl, hp⟩
     go_wp2_with fail
     go_roundw
     case rel => exact ⟨k + 1, by omega, by go_num, Lib.hid (Below.trans (B := wo.heap.size) Hx.out hp.2.1), by rw [Hsn.out, List.flatMap_append, List.flatMap_cons, List.flatMap_nil, List.append_nil, Htx.out]; exact Lib.hid hp.1⟩
     case measure => simp [intOf]; omega
    ·have hkn : k = out.length := by omega
     subst hkn
     rw [List.take_length] at Hw
     have hstr := string_any wr wo.heap.size wo.heap.size _ _ [] Hw.out Hne.out rfl
     have Hstr := Lib.hid hstr
     have hwlt := Hw.out.lt
     clear hk hlt hstr
     go_wp2_with fail
     refine Hstr.out.mono ?_
     rintro e w9 ⟨rfl, hb⟩
     go_wp2_with fail
     go_ret
     exact ⟨rfl, Hst.out.ext.trans (Below.trans (B := wo.heap.size) Hx.out hb)⟩
end Go.Proofs.YtldnjnnhfeobdaaGreatDoor
/- Contracts: Text, Print. Conditions: a tidy graph; for Print a text below 2^20. -/
namespace Go.Proofs.YtldnjnnhfeobdaaGreatDoor
open Go.RowKit Go.Shelf
def textS (g : Graph) (a : Int) : ByteArray := if errG g [a] = 0 then ⟨(textG g a.toNat).toArray⟩ else ⟨#[]⟩
set_option maxRecDepth 100000 in
set_option maxHeartbeats 4000000 in
theorem Text_any (w : World) (gv : Value) (g : Graph) (a : Int) (hg : Sl tyE w gv g) (hT : Tidy g) (hG : Glob w) :
  Calls Tryz.prog 21 #[gv, .int .i64 a] w (Ret w (.tuple #[.string (textS g a), .int .i64 (errG g [a])])) := by
 have hop := opened_any (w.alloc (.cells #[.int .i64 a] 3)) gv _ g [a] (hg.mono ((Ext.refl w).alloc _)) hT (hG.mono ((Ext.refl w).alloc _)) (lit_ints w [a] 1 rfl) (by simp)
 have hcl := fun (w' : World) (hx : Ext w w') (hW : WF g) => classes_any w' gv g (hg.mono hx) hT hW
 have htx := fun (w' : World) (vc : Value) (i : Nat) (hx : Ext w w') (hW : WF g) (hi : i < g.length) (hvc : Sl intE w' vc ((classesG g).map fun (n : Nat) => (n : Int))) => text_any w' gv vc g i (hg.mono hx) hT hW (hG.mono hx) hi hvc
 have hn := hT.len
 obtain ⟨A, cap, rfl⟩ := hg.len
 unfold textS
 by_cases h0 : errG g [a] = 0
 ·rw [if_pos h0]
  rw [h0] at hop ⊢
  obtain ⟨hW, hab⟩ := errG_zero h0
  obtain ⟨a0, a1⟩ := hab a (by simp)
  obtain ⟨i, rfl⟩ := Int.eq_ofNat_of_zero_le a0
  have hi : i < g.length := by omega
  rw [Int.toNat_natCast]
  have hcl := fun w' hx => hcl w' hx hW
  have htx := fun w' vc hx => htx w' vc i hx hW hi
  generalize textG g i = tx at *
  have Hop := Lib.hid hop
  have Hcl := Lib.hid hcl
  have Htx := Lib.hid htx
  clear hop hcl htx hg hG hT h0 hab hW
  go_enter Tryz.func21, Tryz.ntmps21
  go_wp2_with fail
  refine Hop.out.mono ?_
  rintro e w1 ⟨rfl, hx1⟩
  have Hx1 := Lib.hid ((((Ext.refl w).alloc (.cells #[.int .i64 i] 3)).trans hx1).alloc (.cells #[.slice A g.length cap] 77))
  have c1 := heap_cell (heap_alloc_self w1 (.cells #[.slice A g.length cap] 77)) 0 _ rfl
  clear hx1
  go_wp2_with fail
  generalize hw2 : w1.alloc (.cells #[.slice A g.length cap] 77) = w2 at *
  generalize w1.heap.size = b6 at *
  clear hw2
  have hS : ∀ w', Ext w2 w' → w'.cell? ⟨b6, 0, none⟩ = some (.slice A g.length cap) := fun w' hx => hx.cell c1
  have HS := Lib.hid hS
  clear hS c1
  go_region_held3 (fun w' => w'.cell? ⟨b6, 0, none⟩ = some (.slice A g.length cap)) (first | exact HS.out _ (Ext.refl _).drew | exact HS.out _ hxa | exact HS.out _ hxb) (first | (go_at_call 60; refine (Hcl.out _ (Hx1.out.trans (Ext.refl _).drew)).mono ?_; rintro e wa ⟨va, rfl, hva, hxa0⟩; have hxa := (Ext.refl w2).drew.trans hxa0) | (go_at_call 61; refine (Htx.out _ _ (Hx1.out.trans hxa) hva.any).mono ?_; rintro e wb ⟨rfl, hxb0⟩; have hxb := hxa.trans hxb0))
  all_goals (go_wp2_with fail; go_ret2; exact ⟨rfl, Hx1.out.trans hxb⟩)
 ·rw [if_neg h0]
  have hne : (errG g [a] != 0) = true := by simpa using h0
  generalize errG g [a] = er at hop hne ⊢
  have Hop := Lib.hid hop
  clear hop hcl htx hg hG hT h0
  go_enter Tryz.func21, Tryz.ntmps21
  go_wp2_with fail
  refine Hop.out.mono ?_
  rintro e w1 ⟨rfl, hx1⟩
  go_wp2_with fail
  go_ret2
  exact ⟨rfl, (((Ext.refl w).alloc _).trans hx1).alloc _⟩
set_option maxRecDepth 100000 in
set_option maxHeartbeats 4000000 in
theorem Print_any (w : World) (gv : Value) (g : Graph) (a : Int) (hg : Sl tyE w gv g) (hT : Tidy g) (hG : Glob w) (hs : (textS g a).size ≤ 1048576) :
  Calls Tryz.prog 47 #[gv, .int .i64 a] w (Ret w (.tuple #[.string (if errG g [a] = 0 then digestB (textS g a) else ⟨#[]⟩), .int .i64 (errG g [a])])) := by
 have htx := Text_any w gv g a hg hT hG
 have hdg := fun w' => digest_any (textS g a) w' hs
 obtain ⟨A, cap, rfl⟩ := hg.len
 generalize textS g a = s at *
 have Htx := Lib.hid htx
 have Hdg := Lib.hid hdg
 clear hdg hs hT hG hg
 by_cases h0 : errG g [a] = 0
 ·rw [if_pos h0]
  rw [h0] at htx ⊢
  have Htx := Lib.hid htx
  clear htx h0
  go_enter Tryz.func47, Tryz.ntmps47
  go_wp2_with fail
  refine Htx.out.mono ?_
  rintro e w1 ⟨rfl, hx1⟩
  go_wp2_with fail
  refine (Hdg.out _).mono ?_
  rintro e w2 ⟨rfl, hx2⟩
  go_wp2_with fail
  go_ret2
  exact ⟨rfl, hx1.trans hx2⟩
 ·rw [if_neg h0]
  have hne : (errG g [a] != 0) = true := by simpa using h0
  generalize errG g [a] = er at htx hne ⊢
  have Htx := Lib.hid htx
  clear htx h0
  go_enter Tryz.func47, Tryz.ntmps47
  go_wp2_with fail
  refine Htx.out.mono ?_
  rintro e w1 ⟨rfl, hx1⟩
  go_wp2_with fail
  go_ret2
  exact ⟨rfl, hx1⟩
end Go.Proofs.YtldnjnnhfeobdaaGreatDoor
/- Contract: light, of the law. Condition: lengths below 2^20. -/
namespace Go.Proofs.YtldnjnnhfeobdaaGreatDoor
open Go.RowKit Go.Shelf
def methBigP (m : Method) : Prop := 8 < m.args.length ∨ 8 < m.raises.length ∨ 40 < m.name.size ∨ 40 < m.proc.size
def tyBigP (t : Ty) : Prop := 10 < t.parts.length ∨ 10 < t.methods.length ∨ 10 < t.overs.length ∨ 40 < t.brand.size ∨ 40 < t.opaq.size
instance (m : Method) : Decidable (methBigP m) := by unfold methBigP; infer_instance
instance (t : Ty) : Decidable (tyBigP t) := by unfold tyBigP; infer_instance
def lightP (t : Ty) : Prop := ¬ tyBigP t ∧ ∀ m ∈ t.methods, ¬ methBigP m
instance (t : Ty) : Decidable (lightP t) := by unfold lightP; infer_instance
def lightG (g : Graph) : Bool := decide (∀ t ∈ g.take 410, lightP t) && (decide (g.length ≤ 24) || (decide (400 < g.length) && decide (g.length ≤ 403)))
theorem light_bad {g : Graph} {k : Nat} (hk : k < g.length) (h4 : k < 410) (h : ¬ lightP (getT g k)) : lightG g = false := by
 unfold lightG
 rw [decide_eq_false, Bool.false_and]
 intro hall
 refine h (hall _ ?_)
 rw [getT_lt hk]
 exact List.mem_iff_getElem.2 ⟨k, by rw [List.length_take]; omega, by simp⟩
theorem light_good {g : Graph} (h : ∀ k, k < g.length → k < 410 → lightP (getT g k)) : lightG g = (decide (g.length ≤ 24) || (decide (400 < g.length) && decide (g.length ≤ 403))) := by
 unfold lightG
 rw [decide_eq_true, Bool.true_and]
 intro t ht
 obtain ⟨k, hk, rfl⟩ := List.mem_iff_getElem.1 ht
 rw [List.length_take] at hk
 rw [List.getElem_take, ← getT_lt (by omega)]
 exact h k (by omega) (by omega)
set_option maxRecDepth 100000 in
set_option maxHeartbeats 16000000 in
theorem light_any (w : World) (gv : Value) (g : Graph) (hg : Sl tyE w gv g) (hT : Tidy g) :
  Calls Tryz.prog 13 #[gv] w (Ret w (.bool (lightG g))) := by
 have hn := hT.len
 obtain ⟨A, cap, rfl, hs⟩ := hg.ty
 have hty := hT.ty
 have Hs := Lib.hid hs
 have Hty := Lib.hid hty
 clear hs hg hT hty
 go_enter Tryz.func13, Tryz.ntmps13
 go_wp2_with fail
 obtain ⟨wo, rfl⟩ : ∃ wo : World, wo = w := ⟨_, rfl⟩
 go_loopw [3] (fun u wr => ∃ k : Nat, k ≤ g.length ∧ k ≤ 410 ∧ u = .int .i64 k ∧ Hid (Ext wo wr) ∧ Hid (∀ j, j < g.length → j < 410 → j < k → lightP (getT g j))) (fun u _ => g.length - (intOf u).toNat)
 case atStart => exact ⟨0, by omega, by omega, rfl, Lib.hid (Ext.refl _), Lib.hid (fun j _ _ h => by omega)⟩
 case round =>
  obtain ⟨k, hk, hk4, rfl, Hx, Hall⟩ := hrel
  by_cases hlt : k < g.length ∧ k < 410
  ·obtain ⟨hlt, hlt4⟩ := hlt
   obtain ⟨b, off, vp, vm, vo, rfl, hat, hof⟩ := Hs.out k hlt
   rw [← getT_lt hlt] at hat hof
   have hts := (Hty.out _ (getT_mem hlt)).1
   have hbad := light_bad (k := k) hlt hlt4
   have hnext := fun (h : lightP (getT g k)) j (hj : j < g.length) (hj4 : j < 410) (hjk : j < k + 1) => if e : j = k then e ▸ h else Hall.out j hj hj4 (by omega)
   generalize getT g k = t at *
   obtain ⟨A1, c1, e1⟩ := hof.parts.len
   obtain ⟨A2, c2, e2, hmt⟩ := hof.methods.method
   obtain ⟨A3, c3, e3⟩ := hof.overs.len
   subst e1 e2 e3
   obtain ⟨d0, d1, d2, d3, d4, d5, d6, d7, d8, d9⟩ := hat.mono Hx.out
   have i0 : (0 : Int) ≤ (k : Int) := by omega
   have i1 : (k : Int) < (g.length : Int) := by omega
   have i2 : (k : Int) < 410 := by omega
   have ld := cell_lt d0
   have hp1 := hts.parts
   have hp2 := hts.methods
   have hp3 := hts.overs
   have hp4 := hts.brand
   have hp5 := hts.opaq
   have Hms := Lib.hid hts.method
   have Hmt := Lib.hid hmt
   have Hbad := Lib.hid hbad
   have Hnext := Lib.hid hnext
   have hcases : (10 < t.parts.length) ∨ (¬ 10 < t.parts.length ∧ 10 < t.methods.length) ∨ (¬ 10 < t.parts.length ∧ ¬ 10 < t.methods.length ∧ 10 < t.overs.length) ∨ (¬ 10 < t.parts.length ∧ ¬ 10 < t.methods.length ∧ ¬ 10 < t.overs.length ∧ 40 < t.brand.size) ∨ (¬ 10 < t.parts.length ∧ ¬ 10 < t.methods.length ∧ ¬ 10 < t.overs.length ∧ ¬ 40 < t.brand.size ∧ 40 < t.opaq.size) ∨ (¬ 10 < t.parts.length ∧ ¬ 10 < t.methods.length ∧ ¬ 10 < t.overs.length ∧ ¬ 40 < t.brand.size ∧ ¬ 40 < t.opaq.size) := by omega
   clear hof hat hts hbad hnext hmt hk hk4
   rcases hcases with h1 | ⟨h1, h2⟩ | ⟨h1, h2, h3⟩ | ⟨h1, h2, h3, h4⟩ | ⟨h1, h2, h3, h4, h5⟩ | ⟨h1, h2, h3, h4, h5⟩
   case inl => 
    have q1 : (10 : Int) < (t.parts.length : Int) := by omega
    have hb : lightG g = false := Hbad.out (fun h => h.1 (by unfold tyBigP; omega))
    rw [hb]
    go_wp2_with fail
    go_ret
    exact ⟨rfl, Hx.out.alloc _⟩
   case inr.inl => 
    have q1 : ¬ (10 : Int) < (t.parts.length : Int) := by omega
    have q2 : (10 : Int) < (t.methods.length : Int) := by omega
    have hb : lightG g = false := Hbad.out (fun h => h.1 (by unfold tyBigP; omega))
    rw [hb]
    go_wp2_with fail
    go_ret
    exact ⟨rfl, Hx.out.alloc _⟩
   case inr.inr.inl => 
    have q1 : ¬ (10 : Int) < (t.parts.length : Int) := by omega
    have q2 : ¬ (10 : Int) < (t.methods.length : Int) := by omega
    have q3 : (10 : Int) < (t.overs.length : Int) := by omega
    have hb : lightG g = false := Hbad.out (fun h => h.1 (by unfold tyBigP; omega))
    rw [hb]
    go_wp2_with fail
    go_ret
    exact ⟨rfl, Hx.out.alloc _⟩
   case inr.inr.inr.inl => 
    have q1 : ¬ (10 : Int) < (t.parts.length : Int) := by omega
    have q2 : ¬ (10 : Int) < (t.methods.length : Int) := by omega
    have q3 : ¬ (10 : Int) < (t.overs.length : Int) := by omega
    have q4 : (40 : Int) < (t.brand.size : Int) := by omega
    have hb : lightG g = false := Hbad.out (fun h => h.1 (by unfold tyBigP; omega))
    rw [hb]
    go_wp2_with fail
    go_ret
    exact ⟨rfl, Hx.out.alloc _⟩
   case inr.inr.inr.inr.inl => 
    have q1 : ¬ (10 : Int) < (t.parts.length : Int) := by omega
    have q2 : ¬ (10 : Int) < (t.methods.length : Int) := by omega
    have q3 : ¬ (10 : Int) < (t.overs.length : Int) := by omega
    have q4 : ¬ (40 : Int) < (t.brand.size : Int) := by omega
    have q5 : (40 : Int) < (t.opaq.size : Int) := by omega
    have hb : lightG g = false := Hbad.out (fun h => h.1 (by unfold tyBigP; omega))
    rw [hb]
    go_wp2_with fail
    go_ret
    exact ⟨rfl, Hx.out.alloc _⟩
   case inr.inr.inr.inr.inr => 
    have q1 : ¬ (10 : Int) < (t.parts.length : Int) := by omega
    have q2 : ¬ (10 : Int) < (t.methods.length : Int) := by omega
    have q3 : ¬ (10 : Int) < (t.overs.length : Int) := by omega
    have q4 : ¬ (40 : Int) < (t.brand.size : Int) := by omega
    have q5 : ¬ (40 : Int) < (t.opaq.size : Int) := by omega
    have Hnb : Hid (¬ tyBigP t) := Lib.hid (by unfold tyBigP; omega)
    have hbox := heap_alloc_self wr (.cells #[.int .u8 t.kind, .int .i64 t.low, .int .i64 t.high, .bool t.branded, .string t.brand, .string t.opaq, .int .i64 t.super, .slice A1 t.parts.length c1, .slice A2 t.methods.length c2, .slice A3 t.overs.length c3] 42)
    have Hx1 := Lib.hid (Hx.out.alloc (.cells #[.int .u8 t.kind, .int .i64 t.low, .int .i64 t.high, .bool t.branded, .string t.brand, .string t.opaq, .int .i64 t.super, .slice A1 t.parts.length c1, .slice A2 t.methods.length c2, .slice A3 t.overs.length c3] 42))
    have cm := heap_cell hbox 8 _ rfl
    have Hcm := Lib.hid cm
    clear hbox h1 h2 h3 h4 h5 cm
    go_wp2_with fail
    generalize (wr.alloc (.cells #[.int .u8 t.kind, .int .i64 t.low, .int .i64 t.high, .bool t.branded, .string t.brand, .string t.opaq, .int .i64 t.super, .slice A1 t.parts.length c1, .slice A2 t.methods.length c2, .slice A3 t.overs.length c3] 42)) = w1 at *
    generalize wr.heap.size = b4 at *
    clear d0 d1 d2 d3 d4 d5 d6 d7 d8 d9 ld Hx
    go_loopw [5] (fun u wr => ∃ j : Nat, j ≤ t.methods.length ∧ u = .int .i64 j ∧ wr = w1 ∧ Hid (∀ i (hi : i < t.methods.length), i < j → ¬ methBigP t.methods[i])) (fun u _ => t.methods.length - (intOf u).toNat)
    case atStart => exact ⟨0, by omega, rfl, rfl, Lib.hid (fun i _ h => by omega)⟩
    case round =>
     obtain ⟨j, hj, rfl, rfl, Hmb⟩ := hrel
     by_cases hjl : j < t.methods.length
     ·obtain ⟨mb, mo, va, vr, rfl, ha, hr, m0, m1, m2, m3, m4⟩ := Hmt.out j hjl
      have hmm := Hms.out _ (List.getElem_mem hjl)
      have hbm : methBigP t.methods[j] → ¬ lightP t := fun h hl => hl.2 _ (List.getElem_mem hjl) h
      have hnm := fun (h : ¬ methBigP t.methods[j]) i (hi : i < t.methods.length) (hij : i < j + 1) => if e : i = j then by subst e; exact h else Hmb.out i hi (by omega)
      generalize t.methods[j] = m at *
      obtain ⟨Aa, ca, ea⟩ := ha.len
      obtain ⟨Ar, cr, er⟩ := hr.len
      subst ea er
      replace m0 := Hx1.out.cell m0
      replace m1 := Hx1.out.cell m1
      replace m2 := Hx1.out.cell m2
      replace m3 := Hx1.out.cell m3
      replace m4 := Hx1.out.cell m4
      have cm := Hcm.out
      have lm := cell_lt m0
      have lb := cell_lt cm
      have j0 : (0 : Int) ≤ (j : Int) := by omega
      have j1 : (j : Int) < (t.methods.length : Int) := by omega
      obtain ⟨hz1, hz2, hz3, hz4, _⟩ := hmm
      have Hbm := Lib.hid hbm
      have Hnm := Lib.hid hnm
      have hcases : (8 < m.args.length) ∨ (¬ 8 < m.args.length ∧ 8 < m.raises.length) ∨ (¬ 8 < m.args.length ∧ ¬ 8 < m.raises.length ∧ 40 < m.name.size) ∨ (¬ 8 < m.args.length ∧ ¬ 8 < m.raises.length ∧ ¬ 40 < m.name.size ∧ 40 < m.proc.size) ∨ (¬ 8 < m.args.length ∧ ¬ 8 < m.raises.length ∧ ¬ 40 < m.name.size ∧ ¬ 40 < m.proc.size) := by omega
      clear hbm hnm ha hr hj
      rcases hcases with h1 | ⟨h1, h2⟩ | ⟨h1, h2, h3⟩ | ⟨h1, h2, h3, h4⟩ | ⟨h1, h2, h3, h4⟩
      case inl =>
       have r1 : (8 : Int) < (m.args.length : Int) := by omega
       have hb : lightG g = false := Hbad.out (Hbm.out (by unfold methBigP; omega))
       go_wp2_with fail
       go_ret
       first | exact ⟨rfl, Hx1.out⟩ | exact (show Ret wo (.bool (lightG g)) _ _ by rw [hb]; exact ⟨rfl, Hx1.out⟩)
      case inr.inl =>
       have r1 : ¬ (8 : Int) < (m.args.length : Int) := by omega
       have r2 : (8 : Int) < (m.raises.length : Int) := by omega
       have hb : lightG g = false := Hbad.out (Hbm.out (by unfold methBigP; omega))
       go_wp2_with fail
       go_ret
       first | exact ⟨rfl, Hx1.out⟩ | exact (show Ret wo (.bool (lightG g)) _ _ by rw [hb]; exact ⟨rfl, Hx1.out⟩)
      case inr.inr.inl =>
       have r1 : ¬ (8 : Int) < (m.args.length : Int) := by omega
       have r2 : ¬ (8 : Int) < (m.raises.length : Int) := by omega
       have r3 : (40 : Int) < (m.name.size : Int) := by omega
       have hb : lightG g = false := Hbad.out (Hbm.out (by unfold methBigP; omega))
       go_wp2_with fail
       go_ret
       first | exact ⟨rfl, Hx1.out⟩ | exact (show Ret wo (.bool (lightG g)) _ _ by rw [hb]; exact ⟨rfl, Hx1.out⟩)
      case inr.inr.inr.inl =>
       have r1 : ¬ (8 : Int) < (m.args.length : Int) := by omega
       have r2 : ¬ (8 : Int) < (m.raises.length : Int) := by omega
       have r3 : ¬ (40 : Int) < (m.name.size : Int) := by omega
       have r4 : (40 : Int) < (m.proc.size : Int) := by omega
       have hb : lightG g = false := Hbad.out (Hbm.out (by unfold methBigP; omega))
       go_wp2_with fail
       go_ret
       first | exact ⟨rfl, Hx1.out⟩ | exact (show Ret wo (.bool (lightG g)) _ _ by rw [hb]; exact ⟨rfl, Hx1.out⟩)
      case inr.inr.inr.inr =>
       have r1 : ¬ (8 : Int) < (m.args.length : Int) := by omega
       have r2 : ¬ (8 : Int) < (m.raises.length : Int) := by omega
       have r3 : ¬ (40 : Int) < (m.name.size : Int) := by omega
       have r4 : ¬ (40 : Int) < (m.proc.size : Int) := by omega
       have hnb : ¬ methBigP m := by unfold methBigP; omega
       go_wp2_with fail
       go_roundw
       case rel => exact ⟨j + 1, by omega, by go_num, trivial, Lib.hid (Hnm.out hnb)⟩
       case measure => simp [intOf]; omega
     ·have hjn : j = t.methods.length := by omega
      subst hjn
      have cm := Hcm.out
      have lb := cell_lt cm
      have hlp : lightP t := ⟨Hnb.out, fun m hm => by obtain ⟨i, hi, rfl⟩ := List.mem_iff_getElem.1 hm; exact Hmb.out i hi hi⟩
      clear hj hjl
      go_wp2_with fail
      go_roundw
      case rel => exact ⟨k + 1, by omega, by omega, by go_num, Hx1, Lib.hid (Hnext.out hlp)⟩
      case measure => simp [intOf]; omega
  ·have hall := light_good (g := g) (fun j hj hj4 => Hall.out j hj hj4 (by omega))
   have hcase : (¬ k < g.length ∧ g.length ≤ 24) ∨ (¬ k < g.length ∧ ¬ g.length ≤ 24 ∧ g.length ≤ 400) ∨ (¬ k < g.length ∧ ¬ g.length ≤ 24 ∧ ¬ g.length ≤ 400 ∧ g.length ≤ 403) ∨ (¬ k < g.length ∧ ¬ g.length ≤ 24 ∧ ¬ g.length ≤ 400 ∧ ¬ g.length ≤ 403) ∨ (k < g.length ∧ ¬ g.length ≤ 24 ∧ ¬ g.length ≤ 400 ∧ ¬ g.length ≤ 403 ∧ ¬ k < 410) := by omega
   clear hlt Hall
   rcases hcase with ⟨h1, h2⟩ | ⟨h1, h2, h3⟩ | ⟨h1, h2, h3, h4⟩ | ⟨h1, h2, h3, h4⟩ | ⟨h1, h2, h3, h4, h5⟩
   case inl =>
    have s1 : ¬ (k : Int) < (g.length : Int) := by omega
    have s2 : (g.length : Int) ≤ 24 := by omega
    have hv : lightG g = true := by
     rw [hall]; simp; omega
    rw [hv]
    clear hall
    go_wp2_with fail
    go_ret
    exact ⟨rfl, Hx.out⟩
   case inr.inl =>
    have s1 : ¬ (k : Int) < (g.length : Int) := by omega
    have s2 : ¬ (g.length : Int) ≤ 24 := by omega
    have s3 : ¬ (400 : Int) < (g.length : Int) := by omega
    have hv : lightG g = false := by
     rw [hall]; simp; omega
    rw [hv]
    clear hall
    go_wp2_with fail
    go_ret
    exact ⟨rfl, Hx.out⟩
   case inr.inr.inl =>
    have s1 : ¬ (k : Int) < (g.length : Int) := by omega
    have s2 : ¬ (g.length : Int) ≤ 24 := by omega
    have s3 : (400 : Int) < (g.length : Int) := by omega
    have s4 : (g.length : Int) ≤ 403 := by omega
    have hv : lightG g = true := by
     rw [hall]; simp; omega
    rw [hv]
    clear hall
    go_wp2_with fail
    go_ret
    exact ⟨rfl, Hx.out⟩
   case inr.inr.inr.inl =>
    have s1 : ¬ (k : Int) < (g.length : Int) := by omega
    have s2 : ¬ (g.length : Int) ≤ 24 := by omega
    have s3 : (400 : Int) < (g.length : Int) := by omega
    have s4 : ¬ (g.length : Int) ≤ 403 := by omega
    have hv : lightG g = false := by
     rw [hall]; simp; omega
    rw [hv]
    clear hall
    go_wp2_with fail
    go_ret
    exact ⟨rfl, Hx.out⟩
   case inr.inr.inr.inr =>
    have s1 : (k : Int) < (g.length : Int) := by omega
    have s5 : ¬ (k : Int) < 410 := by omega
    have s2 : ¬ (g.length : Int) ≤ 24 := by omega
    have s3 : (400 : Int) < (g.length : Int) := by omega
    have s4 : ¬ (g.length : Int) ≤ 403 := by omega
    have hv : lightG g = false := by
     rw [hall]; simp; omega
    rw [hv]
    clear hall
    go_wp2_with fail
    go_ret
    exact ⟨rfl, Hx.out⟩
end Go.Proofs.YtldnjnnhfeobdaaGreatDoor
/- The law's own example: what the plain functions say of it. No program. -/
namespace Go.Proofs.YtldnjnnhfeobdaaGreatDoor
open Go.RowKit Go.Shelf
def headS : ByteArray := ⟨#[104, 101, 97, 100]⟩
def tailS : ByteArray := ⟨#[116, 97, 105, 108]⟩
def emptyS : ByteArray := ⟨#[]⟩
def recT (a b : Int) : Ty := ⟨10, 0, 0, false, emptyS, emptyS, 0, [⟨headS, a⟩, ⟨tailS, b⟩], [], []⟩
def listsG : Graph := [⟨1, 0, 0, false, emptyS, emptyS, 0, [], [], []⟩, recT 0 1, recT 0 3, recT 0 2, ⟨9, 0, 0, false, emptyS, emptyS, 0, [⟨emptyS, 1⟩], [], []⟩, ⟨3, 0, 9, false, emptyS, emptyS, 0, [], [], []⟩, recT 5 6]
theorem lists_check : checkG listsG = (0, 0) := by decide +kernel
theorem lists_classes : classesG listsG = [0, 1, 1, 1, 4, 5, 6] := by decide +kernel
theorem lists_way : wayN (agN listsG) (refsN listsG) 7 1 6 = some [0] := by decide +kernel
theorem lists_err (ats : List Int) (h : ats.any (outB 7) = false) : errG listsG ats = 0 := by
 unfold errG
 rw [lists_check]
 simp [listsG] at h ⊢
 exact h
theorem lists_equal : equalG listsG 1 2 = true := by
 unfold equalG sameG
 rw [lists_err _ (by decide), lists_classes]
 decide
theorem lists_differ : equalG listsG 1 6 = false := by
 unfold equalG sameG
 rw [lists_err _ (by decide), lists_classes]
 decide
theorem lists_apart : apartG listsG 1 6 = some [0] := by
 unfold apartG
 rw [lists_err _ (by decide), if_pos rfl]
 exact lists_way
theorem lists_told : checkApartG listsG 1 6 [1, 0] = true := by
 unfold checkApartG
 rw [lists_err _ (by decide), if_pos rfl]
 decide +kernel
theorem lists_merge : (mergeG listsG).length = 5 := by
 unfold mergeG
 rw [lists_err _ (by decide), if_pos rfl, lists_classes]
 decide +kernel
theorem lists_to : mergeTo listsG = [0, 1, 1, 1, 2, 3, 4] := by
 unfold mergeTo
 rw [lists_err _ (by decide), if_pos rfl, lists_classes]
 decide +kernel
theorem lists_text : (textG listsG 3).toArray = #[49, 48, 32, 45, 32, 104, 101, 97, 100, 58, 49, 32, 116, 97, 105, 108, 58, 48, 10, 49, 10] := by decide +kernel
theorem lists_text0 : (textG listsG 0).toArray = #[49, 10] := by decide +kernel
theorem empty_digest : digestB ⟨#[]⟩ = ⟨#[84, 48, 48, 48, 48, 48, 48, 48, 48, 48, 52, 53, 72]⟩ := by decide +kernel
end Go.Proofs.YtldnjnnhfeobdaaGreatDoor
/- Contracts: record, lists, of the law. No condition. -/
namespace Go.Proofs.YtldnjnnhfeobdaaGreatDoor
open Go.RowKit Go.Shelf
theorem lit_sl {α : Type} {E : Elt α} {F : Nat → Prop} (W : World) (t : TypeId) (xs : List α) (rows : List (List Value)) (n : Nat) (hl : rows.length = xs.length) (hn : n = xs.length) (hF : F W.heap.size)
  (hr : ∀ (i : Nat) (x : α) (r : List Value), xs[i]? = some x → rows[i]? = some r → E.rel F W x r) : SlF F E (W.alloc (.cells rows.flatten.toArray t)) (.slice (some ⟨W.heap.size, 0, none⟩) n n) xs := by
 subst hn
 have hk : ∀ r ∈ rows, r.length = E.k := by
  intro r hm
  obtain ⟨i, hi, rfl⟩ := List.mem_iff_getElem.1 hm
  exact E.len _ _ _ _ (hr i (xs[i]'(by omega)) rows[i] (List.getElem?_eq_getElem (by omega)) (List.getElem?_eq_getElem hi))
 refine ⟨_, _, rfl, fun i x hi => ?_⟩
 have hlt : i < xs.length := (List.getElem?_eq_some_iff.1 hi).1
 have hrow : rows[i]? = some (rows[i]'(by omega)) := List.getElem?_eq_getElem (by omega)
 refine ⟨W.heap.size, 0, rows[i]'(by omega), rfl, ⟨hF, Nat.le_refl _⟩, Elt.ext (hr i x _ hi hrow) ((Ext.refl W).alloc _), fun j u hj => ?_⟩
 rw [World.cell?_alloc_new]
 have := flatten_get rows hk i j _ u hrow hj
 simpa using this
set_option maxRecDepth 100000 in
set_option maxHeartbeats 4000000 in
theorem record_any (w : World) (a b : Int) : Calls Tryz.prog 101 #[.int .i64 a, .int .i64 b] w (RetP w (Res tyE w (recT a b))) := by
 go_enter Tryz.func101, Tryz.ntmps101
 go_wp2_with fail
 have e := Ext.heap ((Ext.refl (w.alloc (.cells #[.int .u8 10, .int .i64 0, .int .i64 0, .bool false, .string ⟨#[]⟩, .string ⟨#[]⟩, .int .i64 0, .slice (some ⟨w.heap.size + 1, 0, none⟩) 2 2, .slice none 0 0, .slice none 0 0] 42))).alloc (.cells #[.string ⟨#[104, 101, 97, 100]⟩, .int .i64 a, .string ⟨#[116, 97, 105, 108]⟩, .int .i64 b] 95)) (heap_alloc_self w (.cells #[.int .u8 10, .int .i64 0, .int .i64 0, .bool false, .string ⟨#[]⟩, .string ⟨#[]⟩, .int .i64 0, .slice (some ⟨w.heap.size + 1, 0, none⟩) 2 2, .slice none 0 0, .slice none 0 0] 42))
 have d0 := heap_cell e 0 _ rfl
 have d1 := heap_cell e 1 _ rfl
 have d2 := heap_cell e 2 _ rfl
 have d3 := heap_cell e 3 _ rfl
 have d4 := heap_cell e 4 _ rfl
 have d5 := heap_cell e 5 _ rfl
 have d6 := heap_cell e 6 _ rfl
 have d7 := heap_cell e 7 _ rfl
 have d8 := heap_cell e 8 _ rfl
 have d9 := heap_cell e 9 _ rfl
 refine bodyPost_ret (v := .agg #[.int .u8 10, .int .i64 0, .int .i64 0, .bool false, .string ⟨#[]⟩, .string ⟨#[]⟩, .int .i64 0, .slice (some ⟨w.heap.size + 1, 0, none⟩) 2 2, .slice none 0 0, .slice none 0 0]) ?_ rfl ?_
 ·simp [results, Tryz.results101, go_sem, d0, d1, d2, d3, d4, d5, d6, d7, d8, d9]
 ·refine ⟨_, rfl, ⟨_, ⟨_, _, _, rfl, ?_, SlF.nil _ _ _, SlF.nil _ _ _⟩, rfl⟩, ((Ext.refl w).alloc _).alloc _⟩
  have h := lit_sl (F := New w) (E := partE) (w.alloc (.cells #[.int .u8 10, .int .i64 0, .int .i64 0, .bool false, .string ⟨#[]⟩, .string ⟨#[]⟩, .int .i64 0, .slice (some ⟨w.heap.size + 1, 0, none⟩) 2 2, .slice none 0 0, .slice none 0 0] 42)) 95 [⟨headS, a⟩, ⟨tailS, b⟩] [[.string headS, .int .i64 a], [.string tailS, .int .i64 b]] 2 rfl rfl (by unfold New; simp) (fun i x r h1 h2 => by
   match i with
   | 0 => simp at h1 h2; subst h1 h2; rfl
   | 1 => simp at h1 h2; subst h1 h2; rfl
   | i + 2 => simp at h1)
  rw [World.size_alloc] at h
  exact h
set_option maxRecDepth 100000 in
set_option maxHeartbeats 4000000 in
theorem lists_any (w : World) : Calls Tryz.prog 53 #[] w (RetP w (fun w' v => SlF (New w) tyE w' v listsG)) := by
 have hr := record_any
 have Hr := Lib.hid hr
 clear hr
 go_enter Tryz.func53, Tryz.ntmps53
 go_wp2_with fail
 refine (Hr.out _ _ _).mono ?_
 rintro e w1 ⟨_, rfl, ⟨_, ⟨p1, m1', o1, rfl, h1p, h1m, h1o⟩, rfl⟩, hx1⟩
 simp only [pack]
 go_wp2_with fail
 refine (Hr.out _ _ _).mono ?_
 rintro e w2 ⟨_, rfl, ⟨_, ⟨p2, m2', o2, rfl, h2p, h2m, h2o⟩, rfl⟩, hx2⟩
 simp only [pack]
 go_wp2_with fail
 refine (Hr.out _ _ _).mono ?_
 rintro e w3 ⟨_, rfl, ⟨_, ⟨p3, m3', o3, rfl, h3p, h3m, h3o⟩, rfl⟩, hx3⟩
 simp only [pack]
 go_wp2_with fail
 refine (Hr.out _ _ _).mono ?_
 rintro e w4 ⟨_, rfl, ⟨_, ⟨p4, m4', o4, rfl, h4p, h4m, h4o⟩, rfl⟩, hx4⟩
 simp only [pack]
 go_wp2_with fail
 have hx := (hx1.trans (hx2.trans hx3)).alloc (.cells #[.string ⟨#[]⟩, .int .i64 1] 95)
 have hs1 := hx1.size
 have hs2 := hx2.size
 have hs3 := hx3.size
 have hs4 := hx4.size
 rw [World.size_alloc] at hs4
 have m1 : ∀ {α : Type} {E : Elt α} {v : Value} {xs : List α}, SlF (New w) E w1 v xs → SlF (New w) E w4 v xs := fun h => h.ext ((hx2.trans hx3).trans (((Ext.refl _).alloc _).trans hx4))
 have m2 : ∀ {α : Type} {E : Elt α} {v : Value} {xs : List α}, SlF (New w1) E w2 v xs → SlF (New w) E w4 v xs := fun h => (h.mono (fun _ _ _ => rfl) (fun b hb _ => by unfold New at hb ⊢; omega)).ext (hx3.trans (((Ext.refl _).alloc _).trans hx4))
 have m3 : ∀ {α : Type} {E : Elt α} {v : Value} {xs : List α}, SlF (New w2) E w3 v xs → SlF (New w) E w4 v xs := fun h => (h.mono (fun _ _ _ => rfl) (fun b hb _ => by unfold New at hb ⊢; omega)).ext (((Ext.refl _).alloc _).trans hx4)
 have m4 : ∀ {α : Type} {E : Elt α} {v : Value} {xs : List α}, SlF (New (w3.alloc (.cells #[.string ⟨#[]⟩, .int .i64 1] 95))) E w4 v xs → SlF (New w) E w4 v xs := fun h => h.mono (fun _ _ _ => rfl) (fun b hb _ => by unfold New at hb ⊢; rw [World.size_alloc] at hb; omega)
 have hp : SlF (New w) partE w4 (.slice (some ⟨w3.heap.size, 0, none⟩) 1 1) [(⟨emptyS, 1⟩ : Part)] := SlF.ext (lit_sl (α := Part) (E := partE) (F := New w) w3 95 [(⟨emptyS, 1⟩ : Part)] [[.string emptyS, .int .i64 1]] 1 rfl rfl (by unfold New; omega) (fun i x r h1 h2 => by
   match i with
   | 0 => simp at h1 h2; subst h1 h2; rfl
   | i + 1 => simp at h1)) hx4
 go_ret
 refine ⟨_, rfl, lit_sl (F := New w) w4 42 listsG [[.int .u8 1, .int .i64 0, .int .i64 0, .bool false, .string ⟨#[]⟩, .string ⟨#[]⟩, .int .i64 0, .slice none 0 0, .slice none 0 0, .slice none 0 0], [.int .u8 10, .int .i64 0, .int .i64 0, .bool false, .string ⟨#[]⟩, .string ⟨#[]⟩, .int .i64 0, p1, m1', o1], [.int .u8 10, .int .i64 0, .int .i64 0, .bool false, .string ⟨#[]⟩, .string ⟨#[]⟩, .int .i64 0, p2, m2', o2], [.int .u8 10, .int .i64 0, .int .i64 0, .bool false, .string ⟨#[]⟩, .string ⟨#[]⟩, .int .i64 0, p3, m3', o3], [.int .u8 9, .int .i64 0, .int .i64 0, .bool false, .string ⟨#[]⟩, .string ⟨#[]⟩, .int .i64 0, .slice (some ⟨w3.heap.size, 0, none⟩) 1 1, .slice none 0 0, .slice none 0 0], [.int .u8 3, .int .i64 0, .int .i64 9, .bool false, .string ⟨#[]⟩, .string ⟨#[]⟩, .int .i64 0, .slice none 0 0, .slice none 0 0, .slice none 0 0], [.int .u8 10, .int .i64 0, .int .i64 0, .bool false, .string ⟨#[]⟩, .string ⟨#[]⟩, .int .i64 0, p4, m4', o4]] 7 rfl rfl (by unfold New; omega) ?_, ?_⟩
 ·intro i x r h1 h2
  match i with
  | 0 => simp [listsG] at h1 h2; subst h1 h2; exact ⟨_, _, _, rfl, SlF.nil _ _ _, SlF.nil _ _ _, SlF.nil _ _ _⟩
  | 1 => simp [listsG] at h1 h2; subst h1 h2; exact ⟨_, _, _, rfl, m1 h1p, m1 h1m, m1 h1o⟩
  | 2 => simp [listsG] at h1 h2; subst h1 h2; exact ⟨_, _, _, rfl, m2 h2p, m2 h2m, m2 h2o⟩
  | 3 => simp [listsG] at h1 h2; subst h1 h2; exact ⟨_, _, _, rfl, m3 h3p, m3 h3m, m3 h3o⟩
  | 4 => simp [listsG] at h1 h2; subst h1 h2; exact ⟨_, _, _, rfl, hp, SlF.nil _ _ _, SlF.nil _ _ _⟩
  | 5 => simp [listsG] at h1 h2; subst h1 h2; exact ⟨_, _, _, rfl, SlF.nil _ _ _, SlF.nil _ _ _, SlF.nil _ _ _⟩
  | 6 => simp [listsG] at h1 h2; subst h1 h2; exact ⟨_, _, _, rfl, m4 h4p, m4 h4m, m4 h4o⟩
  | i + 7 => simp [listsG] at h1
 ·exact (hx.trans hx4).alloc _
end Go.Proofs.YtldnjnnhfeobdaaGreatDoor
/- Contract: alive, of the law. Condition: the tables of the library are laid. -/
namespace Go.Proofs.YtldnjnnhfeobdaaGreatDoor
open Go.RowKit Go.Shelf
theorem lists_tidy : Tidy listsG := by
 refine ⟨by decide, ?_⟩
 intro t ht
 simp only [listsG, List.mem_cons, List.not_mem_nil, or_false] at ht
 rcases ht with rfl | rfl | rfl | rfl | rfl | rfl | rfl <;>
  exact ⟨⟨by decide, by decide, by decide, by simp only [recT, List.forall_mem_cons, List.not_mem_nil, false_imp_iff, implies_true, and_true]; first | done | decide, by decide, by simp [recT], by decide, by simp [recT]⟩, by decide, by decide⟩
theorem lists_errs : errG listsG [1, 2] = 0 ∧ errG listsG [1, 6] = 0 ∧ errG listsG [] = 0 ∧ errG listsG [3] = 0 ∧ errG listsG [0] = 0 := by
 refine ⟨?_, ?_, ?_, ?_, ?_⟩ <;> exact lists_err _ (by decide)
theorem lists_textS : textS listsG 3 = ⟨#[49, 48, 32, 45, 32, 104, 101, 97, 100, 58, 49, 32, 116, 97, 105, 108, 58, 48, 10, 49, 10]⟩ := by
 unfold textS
 rw [lists_errs.2.2.2.1, if_pos rfl]
 exact congrArg ByteArray.mk lists_text
theorem lists_textS0 : textS listsG 0 = ⟨#[49, 10]⟩ := by
 unfold textS
 rw [lists_errs.2.2.2.2, if_pos rfl]
 exact congrArg ByteArray.mk lists_text0
theorem lists_apartP {w w' : World} {e : Ending} : ApartPost w (apartG listsG 1 6) (errG listsG [1, 6]) e w' → ∃ A c b off, e = .returned (.tuple #[.slice A 1 c, .bool true, .int .i64 0]) ∧ A = some ⟨b, off, none⟩ ∧ w'.cell? ⟨b, off, none⟩ = some (.int .i64 0) ∧ Ext w w' := by
 rw [lists_apart, lists_errs.2.1]
 rintro ⟨v, rfl, hv, hx⟩
 obtain ⟨A, c, rfl, hs⟩ := Sl.nat hv
 obtain ⟨b, off, rfl, hc⟩ := hs 0 (by simp)
 exact ⟨_, c, b, off, rfl, rfl, hc, hx⟩
theorem lists_mergeP {w w' : World} {e : Ending} : MergePost w listsG e w' → ∃ A c B k b off, e = .returned (.tuple #[.slice A 5 c, .slice B 7 k, .int .i64 0]) ∧ B = some ⟨b, off, none⟩ ∧ w'.cell? ⟨b, off + 3, none⟩ = some (.int .i64 1) ∧ Ext w w' := by
 rintro ⟨v1, v2, rfl, h1, h2, hx⟩
 obtain ⟨A, c, rfl⟩ := h1.len
 rw [lists_to] at h2
 obtain ⟨B, k, rfl, hs⟩ := h2.int
 obtain ⟨b, off, rfl, hc⟩ := hs 3 (by decide)
 rw [lists_merge, lists_errs.2.2.1]
 exact ⟨A, c, _, k, b, off, rfl, rfl, hc, hx⟩
set_option maxRecDepth 100000 in
set_option maxHeartbeats 16000000 in
theorem alive_any (w : World) (hG : Glob w) : Calls Tryz.prog 14 #[] w (Ret w (.bool true)) := by
 have hl := lists_any
 have he := fun (w' : World) (v : Value) (hx : Ext w w') (hv : Sl tyE w' v listsG) => equal_any w' v listsG 1 2 hv lists_tidy (hG.mono hx)
 have hd := fun (w' : World) (v : Value) (hx : Ext w w') (hv : Sl tyE w' v listsG) => equal_any w' v listsG 1 6 hv lists_tidy (hG.mono hx)
 have ha := fun (w' : World) (v : Value) (hx : Ext w w') (hv : Sl tyE w' v listsG) => (apart_any w' v listsG 1 6 hv lists_tidy (hG.mono hx)).mono fun e w'' h => lists_apartP h
 have hc := fun (w' : World) (v u : Value) (hx : Ext w w') (hv : Sl tyE w' v listsG) (hu : Sl intE w' u [1, 0]) => checkApart_any w' v u listsG 1 6 [1, 0] hv lists_tidy (hG.mono hx) hu (by decide)
 have hm := fun (w' : World) (v : Value) (hx : Ext w w') (hv : Sl tyE w' v listsG) => (merge_any w' v listsG hv lists_tidy (hG.mono hx)).mono fun e w'' h => lists_mergeP h
 have ht := fun (w' : World) (v : Value) (hx : Ext w w') (hv : Sl tyE w' v listsG) => Text_any w' v listsG 3 hv lists_tidy (hG.mono hx)
 have hp := fun (w' : World) (v : Value) (hx : Ext w w') (hv : Sl tyE w' v listsG) => Print_any w' v listsG 0 hv lists_tidy (hG.mono hx) (by rw [lists_textS0]; decide)
 have hg1 := fun (w' : World) => digest_any ⟨#[49, 10]⟩ w' (by decide)
 have hg2 := fun (w' : World) => digest_any ⟨#[]⟩ w' (by decide)
 simp only [lists_errs.1, lists_equal] at he
 simp only [lists_errs.2.1, lists_differ] at hd
 simp only [lists_errs.2.1, lists_told] at hc
 simp only [lists_errs.2.2.2.1, lists_textS] at ht
 simp only [lists_errs.2.2.2.2, lists_textS0, if_true] at hp
 simp only [empty_digest] at hg2
 generalize digestB ⟨#[49, 10]⟩ = dg at *
 have Hl := Lib.hid hl
 have He := Lib.hid he
 have Hd := Lib.hid hd
 have Ha := Lib.hid ha
 have Hc := Lib.hid hc
 have Hm := Lib.hid hm
 have Ht := Lib.hid ht
 have Hp := Lib.hid hp
 have Hg1 := Lib.hid hg1
 have Hg2 := Lib.hid hg2
 clear hl he hd ha hc hm ht hp hg1 hg2 hG
 go_enter Tryz.func14, Tryz.ntmps14
 go_wp2_with fail
 refine (Hl.out _).mono ?_
 rintro e w1 ⟨v, rfl, hv, hx⟩
 obtain ⟨A, cap, rfl⟩ := hv.any.len
 have Hv := Lib.hid hv.any
 have Hx := Lib.hid hx
 clear hv hx
 go_wp2_with fail
 refine (He.out _ _ Hx.out Hv.out).mono ?_
 rintro e w2 ⟨rfl, hx⟩
 replace Hv := Lib.hid (Hv.out.mono hx)
 replace Hx := Lib.hid (Hx.out.trans hx)
 clear hx
 go_wp2_with fail
 refine (Hd.out _ _ Hx.out Hv.out).mono ?_
 rintro e w3 ⟨rfl, hx⟩
 replace Hv := Lib.hid (Hv.out.mono hx)
 replace Hx := Lib.hid (Hx.out.trans hx)
 clear hx
 go_wp2_with fail
 refine (Ha.out _ _ Hx.out Hv.out).mono ?_
 rintro e w4 ⟨Aa, ca, ba, oa, rfl, rfl, cell1, hx⟩
 replace Hv := Lib.hid (Hv.out.mono hx)
 replace Hx := Lib.hid (Hx.out.trans hx)
 clear hx
 have hx := (Ext.refl w4).alloc (.cells #[.int .i64 1, .int .i64 0] 3)
 have Hw := Lib.hid (lit_ints w4 [1, 0] 2 rfl)
 replace Hv := Lib.hid (Hv.out.mono hx)
 replace Hx := Lib.hid (Hx.out.trans hx)
 replace cell1 := hx.cell cell1
 clear hx
 go_wp2_with fail
 refine (Hc.out _ _ _ Hx.out Hv.out Hw.out).mono ?_
 rintro e w5 ⟨rfl, hx⟩
 replace Hv := Lib.hid (Hv.out.mono hx)
 replace Hx := Lib.hid (Hx.out.trans hx)
 replace cell1 := hx.cell cell1
 clear hx
 go_wp2_with fail
 refine (Hm.out _ _ Hx.out Hv.out).mono ?_
 rintro e w6 ⟨Am, cm, Bm, km, bm, om, rfl, rfl, cell2, hx⟩
 replace Hv := Lib.hid (Hv.out.mono hx)
 replace Hx := Lib.hid (Hx.out.trans hx)
 replace cell1 := hx.cell cell1
 clear hx
 go_wp2_with fail
 refine (Ht.out _ _ Hx.out Hv.out).mono ?_
 rintro e w7 ⟨rfl, hx⟩
 replace Hv := Lib.hid (Hv.out.mono hx)
 replace Hx := Lib.hid (Hx.out.trans hx)
 replace cell1 := hx.cell cell1
 replace cell2 := hx.cell cell2
 clear hx
 go_wp2_with fail
 refine (Hp.out _ _ Hx.out Hv.out).mono ?_
 rintro e w8 ⟨rfl, hx⟩
 replace Hv := Lib.hid (Hv.out.mono hx)
 replace Hx := Lib.hid (Hx.out.trans hx)
 replace cell1 := hx.cell cell1
 replace cell2 := hx.cell cell2
 clear hx
 go_wp2_with fail
 refine (Hg1.out _).mono ?_
 rintro e w9 ⟨rfl, hx⟩
 replace Hx := Lib.hid (Hx.out.trans hx)
 clear hx cell1 cell2
 go_wp2_with fail
 refine (Hg2.out _).mono ?_
 rintro e w10 ⟨rfl, hx⟩
 replace Hx := Lib.hid (Hx.out.trans hx)
 clear hx
 go_wp2_with fail
 go_ret
 exact ⟨rfl, Hx.out⟩
end Go.Proofs.YtldnjnnhfeobdaaGreatDoor
/- A law's arguments, opened: what a reading of a graph, of numbers says of the memory; how a law's answer is told. Bulk at most 2^20. -/
namespace Go.Proofs.YtldnjnnhfeobdaaGreatDoor
open Go.RowKit Go.ChangeShapes Go.WideShapes
theorem bulk_part {H : Type} {d : DataW H} {l : List (DataW H)} (h : d ∈ l) : Rows.uptoBulk d ≤ Rows.uptoBulkAll l := by
 induction l with
 | nil => cases h
 | cons x r ih =>
  simp only [Rows.uptoBulkAll]
  cases List.mem_cons.1 h with
  | inl e => subst e; omega
  | inr e => have := ih e; omega
theorem bulk_one {H : Type} (d : DataW H) : 1 ≤ Rows.uptoBulk d := by
 cases d with
 | lit l => cases l <;> simp [Rows.uptoBulk]
 | nil => simp [Rows.uptoBulk]
 | ptr d => simp [Rows.uptoBulk]
 | slice elems spare => simp [Rows.uptoBulk]
 | agg parts => simp [Rows.uptoBulk]
 | iface t d => simp [Rows.uptoBulk]
 | map entries => simp [Rows.uptoBulk]
 | held h => simp [Rows.uptoBulk]
theorem bulk_left {H : Type} (l r : List (DataW H)) : Rows.uptoBulkAll l ≤ Rows.uptoBulkAll (l ++ r) := by
 induction l with
 | nil => simp [Rows.uptoBulkAll]
 | cons x l ih => simp only [List.cons_append, Rows.uptoBulkAll]; omega
theorem bulk_of {H : Type} {l r : List (DataW H)} (h : Rows.uptoSmall H (l ++ r) = true) : ∃ B, B = 1048576 ∧ Rows.uptoBulkAll l ≤ B :=
 ⟨1048576, rfl, Nat.le_trans (bulk_left l r) (of_decide_eq_true h)⟩
theorem bulk_length {H : Type} (l : List (DataW H)) : l.length ≤ Rows.uptoBulkAll l := by
 induction l with
 | nil => simp [Rows.uptoBulkAll]
 | cons x r ih => have := bulk_one x; simp only [Rows.uptoBulkAll, List.length_cons]; omega
theorem list_pick {α : Type} {p : Nat → α → Prop} : ∀ n, (∀ i, i < n → ∃ y, p i y) → ∃ xs : List α, xs.length = n ∧ ∀ i y, xs[i]? = some y → p i y
 | 0, _ => ⟨[], rfl, fun i y h => by simp at h⟩
 | n + 1, h => by
  obtain ⟨xs, hl, hx⟩ := list_pick n (fun i hi => h i (by omega))
  obtain ⟨y, hy⟩ := h n (by omega)
  refine ⟨xs ++ [y], by simp [hl], fun i z hz => ?_⟩
  by_cases hi : i < n
  ·rw [List.getElem?_append_left (by omega)] at hz
   exact hx i z hz
  ·rw [List.getElem?_append_right (by omega)] at hz
   have hin : i = n := by
    have := (List.getElem?_eq_some_iff.1 hz).1
    simp at this; omega
   subst hin
   simp [hl] at hz
   subst hz
   exact hy
section
variable {H : Type} {enc : TypeId × Value → H} {W : World}
/-- what a reading at a type says of the cells, and of sizes if the bulk is bounded -/
def Opens {α : Type} (enc : TypeId × Value → H) (W : World) (e : TypeId) (E : Elt α) (Sm : Nat → α → Prop) : Prop :=
 ∀ (n fuel : Nat) (cs : List Value) (x : DataW H × List MemPlace), DataW.trod enc Tryz.prog W 0 (fun _ => true) true fuel e cs = some x → ∃ y, E.rel Any W y cs ∧ (Rows.uptoBulk x.1 ≤ n → Sm n y)
/-- .. at the type of a slice -/
def OpensSl {α : Type} (enc : TypeId × Value → H) (W : World) (t : TypeId) (E : Elt α) (Sm : Nat → α → Prop) : Prop :=
 ∀ (n fuel : Nat) (cs : List Value) (x : DataW H × List MemPlace), DataW.trod enc Tryz.prog W 0 (fun _ => true) true fuel t cs = some x → ∃ v xs, cs = [v] ∧ Sl E W v xs ∧ (Rows.uptoBulk x.1 ≤ n → xs.length ≤ n ∧ ∀ y ∈ xs, Sm n y)
theorem opens_slice {α : Type} {t e : TypeId} {E : Elt α} {Sm : Nat → α → Prop} (ht : Tryz.prog.underlying t = some (.slice e)) (hk : Tryz.prog.cellsOf e = E.k) (h : Opens enc W e E Sm) : OpensSl enc W t E Sm := by
 intro n fuel cs x hx
 rcases Go.Deep.open_slice ht hx with ⟨rfl, rfl⟩ | ⟨a, len, cap, m, f, D, Pl, rfl, _, hlc, _, hm, rfl, hel⟩
 ·exact ⟨_, [], rfl, Sl.nil _ _, fun _ => ⟨Nat.zero_le _, fun y hy => by simp at hy⟩⟩
 ·have hlm : len ≤ m := by rw [hm]; split <;> omega
  have hall : ∀ i, i < len → ∃ y cs', W.cells? 0 (a.add (i * E.k)) E.k = some cs' ∧ E.rel Any W y cs' ∧ (Rows.uptoBulk (D i) ≤ n → Sm n y) := by
   intro i hi
   obtain ⟨cs', h1, h2⟩ := hel i (by omega)
   rw [hk] at h1
   obtain ⟨y, hy, hs⟩ := h n f cs' _ h2
   exact ⟨y, cs', h1, hy, hs⟩
  obtain ⟨xs, hl, hxs⟩ := list_pick len hall
  refine ⟨_, xs, rfl, ?_, fun hb => ⟨?_, fun y hy => ?_⟩⟩
  ·subst hl
   refine ⟨some a, cap, rfl, fun i y hi => ?_⟩
   have hlt : i < xs.length := (List.getElem?_eq_some_iff.1 hi).1
   obtain ⟨cs', h1, h2, _⟩ := hxs i y hi
   have hsp : a.spot = none := by
    obtain ⟨c0, h0, h02, _⟩ := hxs 0 xs[0] (List.getElem?_eq_getElem (by omega))
    obtain ⟨_, hcl, hc⟩ := World.cells?_some h0
    have hp := E.pos
    have h00 := hc 0 (by omega)
    rw [List.getElem?_eq_getElem (by omega)] at h00
    simp only [Nat.zero_mul, Addr.add, if_true] at h00
    unfold World.cell? at h00
    cases hs : a.spot with
    | none => rfl
    | some k => rw [hs] at h00; split at h00 <;> simp at h00
   obtain ⟨b, off, spot⟩ := a
   simp only at hsp
   subst hsp
   obtain ⟨_, hcl, hc⟩ := World.cells?_some h1
   refine ⟨b, off, cs', rfl, ⟨trivial, hlc⟩, h2, fun j u hj => ?_⟩
   have hjl : j < E.k := by have := (List.getElem?_eq_some_iff.1 hj).1; omega
   have := hc j hjl
   rw [Go.Deep.add_add] at this
   rw [hj] at this
   have ha : (⟨b, off, none⟩ : Addr).add (i * E.k + j) = ⟨b, off + i * E.k + j, none⟩ := by unfold Addr.add; split <;> simp_all <;> omega
   rwa [ha] at this
  ·have h1 := bulk_length ((List.range len).map D)
   simp only [Rows.uptoBulk] at hb
   rw [List.length_map, List.length_range] at h1
   omega
  ·obtain ⟨i, hi, rfl⟩ := List.mem_iff_getElem.1 hy
   obtain ⟨_, _, _, hs⟩ := hxs i _ (List.getElem?_eq_getElem hi)
   refine hs ?_
   simp only [Rows.uptoBulk] at hb
   have h1 := bulk_part (d := D i) (l := (List.range len).map D) (List.mem_map_of_mem (by simp; omega))
   omega
theorem opens_int : Opens enc W 3 intE (fun _ _ => True) := by
 intro n fuel cs x hx
 obtain ⟨k, rfl, rfl, _⟩ := DataW.trod_int Tryz.underlying3 hx
 exact ⟨k, rfl, fun _ => trivial⟩
theorem opens_str : Opens enc W 9 strE (fun n s => s.size ≤ n) := by
 intro n fuel cs x hx
 obtain ⟨s, rfl, rfl, _⟩ := DataW.trod_string Tryz.underlying9 hx
 refine ⟨s, rfl, fun h => ?_⟩
 simp only [Rows.uptoBulk] at h
 have : s.data.toList.length = s.size := by simp
 omega
theorem opens_ints : OpensSl enc W 24 intE (fun _ _ => True) := opens_slice Tryz.underlying24 (by kernel_rfl) opens_int
theorem opens_strs : OpensSl enc W 70 strE (fun n s => s.size ≤ n) := opens_slice Tryz.underlying70 (by kernel_rfl) opens_str
theorem list2 {α : Type} {l : List α} (h : l.length = 2) : ∃ a b, l = [a, b] := by
 match l, h with
 | [a, b], _ => exact ⟨a, b, rfl⟩
theorem list3 {α : Type} {l : List α} (h : l.length = 3) : ∃ a b c, l = [a, b, c] := by
 match l, h with
 | [a, b, c], _ => exact ⟨a, b, c, rfl⟩
theorem list5 {α : Type} {l : List α} (h : l.length = 5) : ∃ a b c d e, l = [a, b, c, d, e] := by
 match l, h with
 | [a, b, c, d, e], _ => exact ⟨a, b, c, d, e, rfl⟩
theorem list10 {α : Type} {l : List α} (h : l.length = 10) : ∃ a b c d e f g i j k, l = [a, b, c, d, e, f, g, i, j, k] := by
 match l, h with
 | [a, b, c, d, e, f, g, i, j, k], _ => exact ⟨a, b, c, d, e, f, g, i, j, k, rfl⟩
theorem k3 : Tryz.prog.cellsOf 3 = 1 := by kernel_rfl
theorem k4 : Tryz.prog.cellsOf 4 = 1 := by kernel_rfl
theorem k5 : Tryz.prog.cellsOf 5 = 1 := by kernel_rfl
theorem k9 : Tryz.prog.cellsOf 9 = 1 := by kernel_rfl
theorem k24 : Tryz.prog.cellsOf 24 = 1 := by kernel_rfl
theorem k38 : Tryz.prog.cellsOf 38 = 1 := by kernel_rfl
theorem k39 : Tryz.prog.cellsOf 39 = 1 := by kernel_rfl
theorem k40 : Tryz.prog.cellsOf 40 = 1 := by kernel_rfl
theorem k70 : Tryz.prog.cellsOf 70 = 1 := by kernel_rfl
theorem k72 : Tryz.prog.cellsOf 72 = 3 := by kernel_rfl
theorem k74 : Tryz.prog.cellsOf 74 = 5 := by kernel_rfl
theorem k95 : Tryz.prog.cellsOf 95 = 2 := by kernel_rfl
theorem k117 : Tryz.prog.cellsOf 117 = 2 := by kernel_rfl
theorem k42 : Tryz.prog.cellsOf 42 = 10 := by kernel_rfl
theorem fld {fs : Array Field} {f : Nat} {cs : List Value} {ys : List (DataW H × List MemPlace)} (hf : ∀ (i : Nat) (g : Field), fs[i]? = some g → DataW.trod enc Tryz.prog W 0 (fun _ => true) true f g.type ((cs.drop g.offset).take (Tryz.prog.cellsOf g.type)) = ys[i]?)
  (i : Nat) (g : Field) (hg : fs[i]? = some g) {t : TypeId} {off k : Nat} {r : List Value} {y : DataW H × List MemPlace} (ht : g.type = t) (ho : g.offset = off) (hk : Tryz.prog.cellsOf t = k) (hr : (cs.drop off).take k = r) (hy : ys[i]? = some y) :
  DataW.trod enc Tryz.prog W 0 (fun _ => true) true f t r = some y := by
 have h := hf i g hg
 rw [ht, ho, hk, hr, hy] at h
 exact h
theorem opens_part : Opens enc W 95 partE (fun n p => p.name.size ≤ n) := by
 intro n fuel cs x hx
 obtain ⟨ys, f, rfl, rfl, hl, hyl, hf⟩ := DataW.trod_struct Tryz.underlying95 hx
 rw [k95] at hl
 obtain ⟨c0, c1, rfl⟩ := list2 hl
 obtain ⟨y0, y1, rfl⟩ := list2 hyl
 obtain ⟨s, e0, hs⟩ := opens_str n _ _ _ (fld hf 0 _ rfl (t := 9) (off := 0) rfl rfl k9 (r := [c0]) rfl (y := y0) rfl)
 obtain ⟨k, e1, _⟩ := opens_int n _ _ _ (fld hf 1 _ rfl (t := 3) (off := 1) rfl rfl k3 (r := [c1]) rfl (y := y1) rfl)
 simp only [strE, intE, List.cons.injEq, and_true] at e0 e1
 subst e0 e1
 refine ⟨⟨s, k⟩, rfl, fun hb => hs ?_⟩
 simp only [Rows.uptoBulk, Rows.uptoBulkAll, List.map_cons, List.map_nil] at hb
 omega
theorem opens_over : Opens enc W 117 overE (fun n p => p.name.size ≤ n ∧ p.proc.size ≤ n) := by
 intro n fuel cs x hx
 obtain ⟨ys, f, rfl, rfl, hl, hyl, hf⟩ := DataW.trod_struct Tryz.underlying117 hx
 rw [k117] at hl
 obtain ⟨c0, c1, rfl⟩ := list2 hl
 obtain ⟨y0, y1, rfl⟩ := list2 hyl
 obtain ⟨s, e0, hs⟩ := opens_str n _ _ _ (fld hf 0 _ rfl (t := 9) (off := 0) rfl rfl k9 (r := [c0]) rfl (y := y0) rfl)
 obtain ⟨k, e1, hs1⟩ := opens_str n _ _ _ (fld hf 1 _ rfl (t := 9) (off := 1) rfl rfl k9 (r := [c1]) rfl (y := y1) rfl)
 simp only [strE, List.cons.injEq, and_true] at e0 e1
 subst e0 e1
 refine ⟨⟨s, k⟩, rfl, fun hb => ?_⟩
 simp only [Rows.uptoBulk, Rows.uptoBulkAll, List.map_cons, List.map_nil] at hb
 exact ⟨hs (by omega), hs1 (by omega)⟩
def MethSm (n : Nat) (m : Method) : Prop := m.name.size ≤ n ∧ m.proc.size ≤ n ∧ m.args.length ≤ n ∧ m.raises.length ≤ n ∧ ∀ r ∈ m.raises, r.size ≤ n
theorem opens_method : Opens enc W 74 methodE MethSm := by
 intro n fuel cs x hx
 obtain ⟨ys, f, rfl, rfl, hl, hyl, hf⟩ := DataW.trod_struct Tryz.underlying74 hx
 rw [k74] at hl
 obtain ⟨c0, c1, c2, c3, c4, rfl⟩ := list5 hl
 obtain ⟨y0, y1, y2, rfl⟩ := list3 hyl
 obtain ⟨s, e0, hs⟩ := opens_str n _ _ _ (fld hf 0 _ rfl (t := 9) (off := 0) rfl rfl k9 (r := [c0]) rfl (y := y0) rfl)
 obtain ⟨p, e2, hp⟩ := opens_str n _ _ _ (fld hf 2 _ rfl (t := 9) (off := 4) rfl rfl k9 (r := [c4]) rfl (y := y2) rfl)
 obtain ⟨zs, f', rfl, rfl, _, hzl, hg⟩ := DataW.trod_struct Tryz.underlying72 (fld hf 1 _ rfl (t := 72) (off := 1) rfl rfl k72 (r := [c1, c2, c3]) rfl (y := y1) rfl)
 obtain ⟨z0, z1, z2, rfl⟩ := list3 hzl
 obtain ⟨va, zs', ea, ha, hsa⟩ := opens_ints n _ _ _ (fld hg 0 _ rfl (t := 24) (off := 0) rfl rfl k24 (r := [c1]) rfl (y := z0) rfl)
 obtain ⟨k, ek, _⟩ := opens_int n _ _ _ (fld hg 1 _ rfl (t := 3) (off := 1) rfl rfl k3 (r := [c2]) rfl (y := z1) rfl)
 obtain ⟨vr, rs, er, hr, hsr⟩ := opens_strs n _ _ _ (fld hg 2 _ rfl (t := 70) (off := 2) rfl rfl k70 (r := [c3]) rfl (y := z2) rfl)
 simp only [strE, intE, List.cons.injEq, and_true] at e0 e2 ek ea er
 subst e0 e2 ek ea er
 refine ⟨⟨s, zs', k, rs, p⟩, ⟨_, _, rfl, ha, hr⟩, fun hb => ?_⟩
 simp only [Rows.uptoBulk, Rows.uptoBulkAll, List.map_cons, List.map_nil] at hb
 exact ⟨hs (by omega), hp (by omega), (hsa (by omega)).1, (hsr (by omega)).1, (hsr (by omega)).2⟩
theorem opens_parts : OpensSl enc W 38 partE (fun n p => p.name.size ≤ n) := opens_slice Tryz.underlying38 k95 opens_part
theorem opens_methods : OpensSl enc W 39 methodE MethSm := opens_slice Tryz.underlying39 k74 opens_method
theorem opens_overs : OpensSl enc W 40 overE (fun n p => p.name.size ≤ n ∧ p.proc.size ≤ n) := opens_slice Tryz.underlying40 k117 opens_over
structure TySm (n : Nat) (t : Ty) : Prop where
 kind : 0 ≤ t.kind ∧ t.kind ≤ 255
 brand : t.brand.size ≤ n
 opaq : t.opaq.size ≤ n
 parts : t.parts.length ≤ n ∧ ∀ p ∈ t.parts, p.name.size ≤ n
 methods : t.methods.length ≤ n ∧ ∀ m ∈ t.methods, MethSm n m
 overs : t.overs.length ≤ n ∧ ∀ o ∈ t.overs, o.name.size ≤ n ∧ o.proc.size ≤ n
theorem wf_u8 {n : Int} (h : (Lit.int .u8 n).wf = true) : 0 ≤ n ∧ n ≤ 255 := by
 simpa [Lit.wf, IntKind.min, IntKind.max, IntKind.signed, IntKind.bits] using h
set_option maxHeartbeats 1000000 in
theorem opens_ty : Opens enc W 42 tyE TySm := by
 intro n fuel cs x hx
 obtain ⟨ys, f, rfl, rfl, hl, hyl, hf⟩ := DataW.trod_struct Tryz.underlying42 hx
 rw [k42] at hl
 obtain ⟨c0, c1, c2, c3, c4, c5, c6, c7, c8, c9, rfl⟩ := list10 hl
 obtain ⟨y0, y1, y2, y3, y4, y5, y6, y7, y8, y9, rfl⟩ := list10 hyl
 obtain ⟨kd, e0, _, hk⟩ := DataW.trod_int Tryz.underlying5 (fld hf 0 _ rfl (t := 5) (off := 0) rfl rfl k5 (r := [c0]) rfl (y := y0) rfl)
 obtain ⟨lo, e1, _⟩ := opens_int n _ _ _ (fld hf 1 _ rfl (t := 3) (off := 1) rfl rfl k3 (r := [c1]) rfl (y := y1) rfl)
 obtain ⟨hi, e2, _⟩ := opens_int n _ _ _ (fld hf 2 _ rfl (t := 3) (off := 2) rfl rfl k3 (r := [c2]) rfl (y := y2) rfl)
 obtain ⟨br, e3, _⟩ := DataW.trod_bool Tryz.underlying4 (fld hf 3 _ rfl (t := 4) (off := 3) rfl rfl k4 (r := [c3]) rfl (y := y3) rfl)
 obtain ⟨bd, e4, hbd⟩ := opens_str n _ _ _ (fld hf 4 _ rfl (t := 9) (off := 4) rfl rfl k9 (r := [c4]) rfl (y := y4) rfl)
 obtain ⟨op, e5, hop⟩ := opens_str n _ _ _ (fld hf 5 _ rfl (t := 9) (off := 5) rfl rfl k9 (r := [c5]) rfl (y := y5) rfl)
 obtain ⟨su, e6, _⟩ := opens_int n _ _ _ (fld hf 6 _ rfl (t := 3) (off := 6) rfl rfl k3 (r := [c6]) rfl (y := y6) rfl)
 obtain ⟨vp, ps, e7, hp, hps⟩ := opens_parts n _ _ _ (fld hf 7 _ rfl (t := 38) (off := 7) rfl rfl k38 (r := [c7]) rfl (y := y7) rfl)
 obtain ⟨vm, ms, e8, hm, hms⟩ := opens_methods n _ _ _ (fld hf 8 _ rfl (t := 39) (off := 8) rfl rfl k39 (r := [c8]) rfl (y := y8) rfl)
 obtain ⟨vo, os, e9, ho, hos⟩ := opens_overs n _ _ _ (fld hf 9 _ rfl (t := 40) (off := 9) rfl rfl k40 (r := [c9]) rfl (y := y9) rfl)
 simp only [strE, intE, List.cons.injEq, and_true] at e0 e1 e2 e3 e4 e5 e6 e7 e8 e9
 subst e0 e1 e2 e3 e4 e5 e6 e7 e8 e9
 refine ⟨⟨kd, lo, hi, br, bd, op, su, ps, ms, os⟩, ⟨_, _, _, rfl, hp, hm, ho⟩, fun hb => ?_⟩
 simp only [Rows.uptoBulk, Rows.uptoBulkAll, List.map_cons, List.map_nil] at hb
 exact ⟨wf_u8 hk, hbd (by omega), hop (by omega), hps (by omega), hms (by omega), hos (by omega)⟩
theorem opens_graph : OpensSl enc W 23 tyE TySm := opens_slice Tryz.underlying23 k42 opens_ty
theorem tidy_of {g : Graph} (h : g.length ≤ 1048576 ∧ ∀ t ∈ g, TySm 1048576 t) : Tidy g :=
 ⟨h.1, fun t ht => ⟨⟨(h.2 t ht).brand, (h.2 t ht).opaq, (h.2 t ht).parts.1, (h.2 t ht).parts.2, (h.2 t ht).methods.1, (h.2 t ht).methods.2, (h.2 t ht).overs.1, (h.2 t ht).overs.2⟩, (h.2 t ht).kind⟩⟩
end
end Go.Proofs.YtldnjnnhfeobdaaGreatDoor
/- What all laws of the seat share: how their answer is told, what their rows list. No condition. -/
namespace Go.Proofs.YtldnjnnhfeobdaaGreatDoor
open Go.RowKit Go.ChangeShapes Go.WideShapes Go.ChangeAt
theorem own : ownKnob Tryz.prog.godebug = none := by kernel_rfl
theorem laidOut : laidOutB Tryz.prog = true := by kernel_rfl
/-- the tables that a row lists -/
def tabs : List (String × DataW Unit) := [("math/bits.deBruijn32tab", Rows.laid_math_bits_deBruijn32tab), ("math/bits.deBruijn64tab", Rows.laid_math_bits_deBruijn64tab), ("internal/strconv.uint64pow10", Rows.laid_internal_strconv_uint64pow10)]
theorem glob_of {W : World} (h : laidMetH Tryz.prog tabs W) (hs : W.ShapedOpen Tryz.prog) : Glob W := by
 refine ⟨Go.Proofs.cell_of_shapedOpen_int (zero := #[.int .i64 0]) (t := 3) hs (of_decide_eq_true (by kernel_rfl)) (by kernel_rfl) rfl (by kernel_rfl) (by kernel_rfl) Tryz.underlying3, ?_⟩
 have h2 : laidMetH Tryz.prog [("internal/strconv.uint64pow10", Rows.laid_internal_strconv_uint64pow10)] W := h.filter (fun x => x.1 == "internal/strconv.uint64pow10")
 have h3 : laidMet Tryz.prog [("internal/strconv.uint64pow10", Lib.tabData .u64 Lib.pow10Tab)] W := h2
 exact Lib.tabIs_of_head (rest := []) (g := 1) (t := 257) (e := 206) (n := 20) (by kernel_rfl) (by kernel_rfl) (by kernel_rfl) (by kernel_rfl) (by kernel_rfl) (by kernel_rfl) h3
set_option maxRecDepth 100000 in
theorem open_graph' {H : Type} {enc : TypeId × Value → H} {W : World} {base : Nat} {v : Value} {d : DataW H} {p : List MemPlace} (n : Nat) (hval : Value.okWide Tryz.prog W .any base 23 v) (h : DataW.Trod enc Tryz.prog W 0 (fun _ => true) true 23 v d p) :
  ∃ g, Sl tyE W v g ∧ (Rows.uptoBulk d ≤ n → g.length ≤ n ∧ ∀ t ∈ g, TySm n t) := by
 obtain ⟨a, len, cap, rfl⟩ := okWide_slice Tryz.underlying23 hval
 obtain ⟨f, hf⟩ := h
 obtain ⟨v', g, e, hg, hs⟩ := opens_graph n _ _ _ hf
 have e' : Value.slice a len cap = v' := List.cons.inj e |>.1
 subst e'
 exact ⟨g, hg, hs⟩
set_option maxRecDepth 100000 in
theorem open_graph {H : Type} {enc : TypeId × Value → H} {W : World} {base : Nat} {v : Value} {d : DataW H} {p : List MemPlace} (hval : Value.okWide Tryz.prog W .any base 23 v) (h : DataW.Trod enc Tryz.prog W 0 (fun _ => true) true 23 v d p) {B : Nat} (hB : B = 1048576) (hb : Rows.uptoBulk d ≤ B) :
  ∃ g, Sl tyE W v g ∧ Tidy g := by
 obtain ⟨g, hg, hs⟩ := open_graph' B hval h
 have hs := hs hb
 rw [hB] at hs
 exact ⟨g, hg, tidy_of hs⟩
theorem trodAll_stays {H : Type} {enc : TypeId × Value → H} {W W' : World} (hx : Ext W W') : ∀ {ts : List TypeId} {vs : List Value} {ds : List (DataW H)} {ps : List MemPlace}, (∀ t ∈ ts, Tryz.prog.readableRec t = true ∧ t < Tryz.prog.types.size) →
  DataW.TrodAll enc Tryz.prog W 0 (fun _ => true) true ts vs ds ps → (∀ p ∈ ps, p.block < W.heap.size) → DataW.TrodAll enc Tryz.prog W' 0 (fun b => decide (b < W.heap.size)) true ts vs ds ps
 | [], [], [], _, _, h, _ => h
 | t :: ts, v :: vs, d :: ds, ps, ht, ⟨p, q, h1, h2, e⟩, hs => by
  subst e
  exact ⟨p, q, Below.trod laidOut (ht t (by simp)).1 (ht t (by simp)).2 h1 hx (fun x hx => hs x (by simp [hx])), trodAll_stays hx (fun t h => ht t (by simp [h])) h2 (fun x hx => hs x (by simp [hx])), rfl⟩
/-- a law that returns true, and lays nothing but new memory, answers as its row says -/
theorem law_post {H : Type} {enc : TypeId × Value → H} {fn : Func} {s : ChangeSpec} {W W' : World} {args : Array Value} {ds gs : List (DataW H)} {before : List MemPlace} (hv : s.vars = []) (hr : fn.resultTypes = #[4])
  (hp : ∀ t ∈ fn.params.toList, Tryz.prog.readableRec t = true ∧ t < Tryz.prog.types.size) (hs : s.fn H ds = { results := [.lit (.bool true)], args := ds })
  (hW : DataW.Whole enc Tryz.prog fn.params.toList s.vars false W args.toList ds gs before) (hx : Ext W W') :
  s.post enc Tryz.prog fn false true false false W args (.bool true) W' := by
 have hW' := hW
 obtain ⟨p, q, hA, hV, rfl, _, _⟩ := hW
 rw [hv] at hV
 obtain ⟨rfl, rfl⟩ := trodVars_none hV
 rw [List.append_nil] at hW'
 have hlt : ∀ x ∈ p, x.block < W.heap.size := fun x h => hW'.lt x h
 refine ⟨ds, [], p, [], p, [], hW', ?_, ?_, ?_, ?_, fun h => by cases h⟩
 ·rw [List.append_nil, hs, hr]
  exact trodAll_mk1 (shut_bool Tryz.underlying4 _)
 ·rw [List.append_nil, hs]
  exact trodAll_stays hx hp hA hlt
 ·rw [List.append_nil, hs, hv]
  exact rfl
 ·exact Below.frame hx _
end Go.Proofs.YtldnjnnhfeobdaaGreatDoor
/- Strings and pairs that a law of the seat is given. No condition. -/
namespace Go.Proofs.YtldnjnnhfeobdaaGreatDoor
open Go.RowKit Go.ChangeShapes Go.WideShapes Go.ChangeAt
end Go.Proofs.YtldnjnnhfeobdaaGreatDoor
