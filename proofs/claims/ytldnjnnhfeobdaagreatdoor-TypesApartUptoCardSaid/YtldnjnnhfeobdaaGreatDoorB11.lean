/- Parts of the proof, joined: Contract of the reference: what may be above a type. Conditions: lengths below 2^20; Plain law: what the reference asks of a type is what the program asks; a walk up that comes back does so in as many steps as there are types. No condition; Contracts of the reference: equal lists of strings, signatures, parts. Conditions: lengths below 2^20; Contract of the reference: parts have different names, and types of a graph. Conditions: lengths below 2^20; Contract of the reference: methods and overrides are as said. Conditions: lengths below 2^20. -/
import Derived.Test.YtldnjnnhfeobdaaGreatDoorB4
import Derived.Test.YtldnjnnhfeobdaaGreatDoorB3
import Derived.Test.YtldnjnnhfeobdaaGreatDoorB10
namespace Go.Proofs.YtldnjnnhfeobdaaGreatDoor
set_option linter.all false
set_option linter.unusedSimpArgs false
set_option linter.unusedVariables false
open Go.RowKit Go.Shelf

theorem over_out {g : Graph} {i : Int} {ks : List Int} (h : ¬ (0 ≤ i ∧ i < g.length)) : overB g i ks = false := by
  unfold overB
  have : hasB g.length i = false := by
    cases hb : hasB g.length i with
    | false => rfl
    | true => exact absurd (hasB_iff.1 hb) h
  rw [this, Bool.false_and]
theorem over_at {g : Graph} {i : Nat} {ks : List Int} (h : i < g.length) : overB g (i : Int) ks = ks.any fun y => g[i].kind == y := by
  unfold overB
  rw [hasB_iff.2 (by omega), Bool.true_and, Int.toNat_natCast, List.getElem?_eq_getElem h]
  rfl
set_option maxRecDepth 100000 in
set_option maxHeartbeats 8000000 in
theorem rsuper_any (w : World) (gv : Value) (g : Graph) (t : Ty) (vp vm vo : Value) (hg : Sl tyE w gv g) (hn : g.length ≤ 1048576) :
    Calls Tryz.prog 119 #[gv, tyV t vp vm vo] w (Ret w (.bool (overB g t.super (if t.kind = 13 then kindsOpaque else kindsObject)))) := by
  obtain ⟨A, cap, rfl, hs⟩ := hg.ty
  by_cases h0 : t.super < 0
  · rw [over_out (by omega)]
    clear hs hg
    go_enter Tryz.func119, Tryz.ntmps119
    unfold tyV
    go_wp2_with fail
    go_ret
    exact ⟨rfl, (Ext.refl _).alloc _⟩
  · by_cases h1 : t.super < (g.length : Int)
    · have h1' : ¬ (g.length : Int) ≤ t.super := by omega
      obtain ⟨i, hi⟩ := Int.eq_ofNat_of_zero_le (show 0 ≤ t.super by omega)
      have hlt : i < g.length := by omega
      obtain ⟨b, off, vp', vm', vo', rfl, hat, _⟩ := hs i hlt
      have c0 := hat.c0
      have l0 := cell_lt c0
      rw [hi, over_at hlt]
      have i0 : (0 : Int) ≤ (i : Int) := by omega
      have i1 : (i : Int) < (g.length : Int) := by omega
      generalize g[i].kind = k at *
      obtain ⟨kd, lo, hi', br, bd, op, su, ps, ms, os⟩ := t
      simp only at hi h0 h1 h1'
      subst hi
      unfold tyV
      simp only
      clear hs hg hat
      by_cases k12 : k = 12
      · subst k12
        have hv : ((if kd = 13 then kindsOpaque else kindsObject).any fun y => (12 : Int) == y) = true := by split <;> rfl
        rw [hv]
        go_enter Tryz.func119, Tryz.ntmps119
        go_wp2_with fail
        go_ret
        exact ⟨rfl, (Ext.refl _).alloc _⟩
      by_cases k6 : k = 6
      · subst k6
        have hv : ((if kd = 13 then kindsOpaque else kindsObject).any fun y => (6 : Int) == y) = true := by split <;> rfl
        rw [hv]
        go_enter Tryz.func119, Tryz.ntmps119
        go_wp2_with fail
        go_ret
        exact ⟨rfl, (Ext.refl _).alloc _⟩
      by_cases k7 : k = 7
      · subst k7
        have hv : ((if kd = 13 then kindsOpaque else kindsObject).any fun y => (7 : Int) == y) = true := by split <;> rfl
        rw [hv]
        go_enter Tryz.func119, Tryz.ntmps119
        go_wp2_with fail
        go_ret
        exact ⟨rfl, (Ext.refl _).alloc _⟩
      by_cases k8 : k = 8
      · subst k8
        have hv : ((if kd = 13 then kindsOpaque else kindsObject).any fun y => (8 : Int) == y) = true := by split <;> rfl
        rw [hv]
        go_enter Tryz.func119, Tryz.ntmps119
        go_wp2_with fail
        go_ret
        exact ⟨rfl, (Ext.refl _).alloc _⟩
      by_cases k13 : k = 13
      · subst k13
        have hv : ((if kd = 13 then kindsOpaque else kindsObject).any fun y => (13 : Int) == y) = true := by split <;> rfl
        rw [hv]
        go_enter Tryz.func119, Tryz.ntmps119
        go_wp2_with fail
        go_ret
        exact ⟨rfl, (Ext.refl _).alloc _⟩
      by_cases k4 : k = 4
      · subst k4
        by_cases kd13 : kd = 13
        · have q : (kd == 13) = true := by simpa using kd13
          rw [if_pos kd13]
          clear kd13
          go_enter Tryz.func119, Tryz.ntmps119
          go_wp2_with fail
          go_ret
          exact ⟨rfl, (Ext.refl _).alloc _⟩
        · have q : (kd == 13) = false := by rw [beq_eq_false_iff_ne]; exact kd13
          rw [if_neg kd13]
          clear kd13
          go_enter Tryz.func119, Tryz.ntmps119
          go_wp2_with fail
          go_ret
          exact ⟨rfl, (Ext.refl _).alloc _⟩
      have q12 : (k == 12) = false := by rw [beq_eq_false_iff_ne]; exact k12
      have q6 : (k == 6) = false := by rw [beq_eq_false_iff_ne]; exact k6
      have q7 : (k == 7) = false := by rw [beq_eq_false_iff_ne]; exact k7
      have q8 : (k == 8) = false := by rw [beq_eq_false_iff_ne]; exact k8
      have q13 : (k == 13) = false := by rw [beq_eq_false_iff_ne]; exact k13
      have q4 : (k == 4) = false := by rw [beq_eq_false_iff_ne]; exact k4
      have hv : ((if kd = 13 then kindsOpaque else kindsObject).any fun y => k == y) = false := by
        split <;> simp [kindsOpaque, kindsObject, k12, k6, k7, k8, k13, k4]
      rw [hv]
      clear k12 k6 k7 k8 k13 k4 hv
      go_enter Tryz.func119, Tryz.ntmps119
      go_wp2_with fail
      go_ret
      exact ⟨rfl, (Ext.refl _).alloc _⟩
    · have h1' : (g.length : Int) ≤ t.super := by omega
      rw [over_out (by omega)]
      clear hs hg
      go_enter Tryz.func119, Tryz.ntmps119
      unfold tyV
      go_wp2_with fail
      go_ret
      exact ⟨rfl, (Ext.refl _).alloc _⟩
end Go.Proofs.YtldnjnnhfeobdaaGreatDoor
/- Plain law: what the reference asks of a type is what the program asks; a walk up that comes back does so in as many steps as there are types. No condition. -/
namespace Go.Proofs.YtldnjnnhfeobdaaGreatDoor
set_option linter.all false
set_option linter.unusedSimpArgs false
set_option linter.unusedVariables false
open Go.RowKit

/-! ### names of parts, methods, overrides -/
def partsFrom (n : Nat) (seen : List ByteArray) : List Part → Bool
  | [] => true
  | p :: r => isNameB p.name && (hasB n p.type && (!memB p.name seen && partsFrom n (seen ++ [p.name]) r))
def methsFrom (n : Nat) (seen : List ByteArray) : List Method → Bool
  | [] => true
  | m :: r => isNameB m.name && ((strEq m.proc ByteArray.empty || isSymbolB m.proc) && (sigB n m && (!memB m.name seen && methsFrom n (seen ++ [m.name]) r)))
def oversFrom (seen : List ByteArray) : List Over → Bool
  | [] => true
  | o :: r => isNameB o.name && (isSymbolB o.proc && (!memB o.name seen && oversFrom (seen ++ [o.name]) r))
theorem distinct_step (seen : List ByteArray) (x : ByteArray) (r : List ByteArray) : distinctFrom seen (x :: r) = if memB x seen then false else isNameB x && distinctFrom (seen ++ [x]) r := rfl
theorem parts_law (n : Nat) : ∀ (l : List Part) (seen : List ByteArray), partsFrom n seen l = (!l.any (partBad n) && distinctFrom seen (l.map Part.name))
  | [], seen => rfl
  | p :: r, seen => by
    have ih := parts_law n r (seen ++ [p.name])
    unfold partsFrom
    rw [ih, List.any_cons, List.map_cons, distinct_step]
    generalize r.any (partBad n) = x
    generalize distinctFrom (seen ++ [p.name]) (r.map Part.name) = y
    unfold partBad
    cases isNameB p.name <;> cases hasB n p.type <;> cases memB p.name seen <;> cases x <;> simp
theorem meths_law (n : Nat) : ∀ (l : List Method) (seen : List ByteArray), methsFrom n seen l = (!l.any (badMethod n) && distinctFrom seen (l.map Method.name))
  | [], seen => rfl
  | m :: r, seen => by
    have ih := meths_law n r (seen ++ [m.name])
    unfold methsFrom
    rw [ih, List.any_cons, List.map_cons, distinct_step]
    generalize r.any (badMethod n) = x
    generalize distinctFrom (seen ++ [m.name]) (r.map Method.name) = y
    unfold badMethod
    cases isNameB m.name <;> cases sigB n m <;> cases memB m.name seen <;> cases x <;> cases strEq m.proc ByteArray.empty <;> cases isSymbolB m.proc <;> simp
theorem overs_law : ∀ (l : List Over) (seen : List ByteArray), oversFrom seen l = (!l.any badOver && distinctFrom seen (l.map Over.name))
  | [], seen => rfl
  | o :: r, seen => by
    have ih := overs_law r (seen ++ [o.name])
    unfold oversFrom
    rw [ih, List.any_cons, List.map_cons, distinct_step]
    generalize r.any badOver = x
    generalize distinctFrom (seen ++ [o.name]) (r.map Over.name) = y
    unfold badOver
    cases isNameB o.name <;> cases memB o.name seen <;> cases x <;> cases isSymbolB o.proc <;> simp
def partsB (n : Nat) (l : List Part) : Bool := partsFrom n [] l && decide (l.length ≤ 8)
def methsB (n : Nat) (t : Ty) : Bool := methsFrom n [] t.methods && (oversFrom [] t.overs && (decide (t.methods.length ≤ 8) && decide (t.overs.length ≤ 8)))
/-! ### a type in itself -/
def numsB (t : Ty) : Bool := decide (t.low = 0) && decide (t.high = 0)
def brandlessB (t : Ty) : Bool := !t.branded && strEq t.brand ByteArray.empty
def plainsB (t : Ty) : Bool := decide (t.methods.length = 0) && decide (t.overs.length = 0)
def brandingB (t : Ty) : Bool := isBrandB t.brand && (t.branded || strEq t.brand ByteArray.empty)
def topB (t : Ty) : Bool := decide (t.super = 0)
def bareB (t : Ty) : Bool := decide (t.parts.length = 0)
def clearB (t : Ty) : Bool := strEq t.opaq ByteArray.empty
def oneB (n : Nat) (t : Ty) : Bool := decide (t.parts.length = 1) && (strEq ((t.parts.head?.map Part.name).getD ByteArray.empty) ByteArray.empty && hasB n ((t.parts.head?.map Part.type).getD 0))
def saidB (g : Graph) (t : Ty) : Bool :=
  if t.kind = 3 then decide (-1000000000 ≤ t.low) && (decide (t.low ≤ t.high) && (decide (t.high ≤ 1000000000) && (brandlessB t && (topB t && (bareB t && (plainsB t && clearB t))))))
  else if t.kind = 9 ∨ t.kind = 11 then numsB t && (brandingB t && (topB t && (oneB g.length t && (plainsB t && clearB t))))
  else if t.kind = 10 then numsB t && (brandingB t && (topB t && (decide (1 ≤ t.parts.length) && (partsB g.length t.parts && (plainsB t && clearB t)))))
  else if t.kind = 12 then numsB t && (brandingB t && (overB g t.super kindsObject && (partsB g.length t.parts && (methsB g.length t && clearB t))))
  else if t.kind = 13 then numsB t && (brandlessB t && (overB g t.super kindsOpaque && (bareB t && (plainsB t && isSymbolB t.opaq))))
  else if 1 ≤ t.kind ∧ t.kind < 14 then numsB t && (brandlessB t && (topB t && (bareB t && (plainsB t && clearB t)))) else false
theorem isEmpty_strEq (s : ByteArray) : s.toList.isEmpty = strEq s ByteArray.empty := (strEq_empty s).symm
theorem lens_zero (a b c : Nat) : decide (a + b + c = 0) = (decide (a = 0) && (decide (b = 0) && decide (c = 0))) := by
  rw [Bool.eq_iff_iff]; simp; omega
theorem le8 (n : Nat) : decide ((n : Int) ≤ 8) = decide (n ≤ 8) := by rw [Bool.eq_iff_iff]; simp; omega
set_option maxHeartbeats 1000000 in
theorem said_right (g : Graph) (t : Ty) : saidB g t = rightB g t := by
  unfold saidB rightB
  by_cases h3 : t.kind = 3
  · rw [if_pos h3, if_pos h3]
    unfold rangedB zeroB noRange brandlessB topB bareB plainsB clearB inB
    simp only [isEmpty_strEq, lens_zero]
    generalize decide (-1000000000 ≤ t.low) = a1
    generalize decide (t.low ≤ t.high) = a2
    generalize decide (t.high ≤ 1000000000) = a3
    generalize t.branded = a4
    generalize strEq t.brand ByteArray.empty = a5
    generalize strEq t.opaq ByteArray.empty = a6
    generalize decide (t.super = 0) = a7
    generalize decide (t.parts.length = 0) = a8
    generalize decide (t.methods.length = 0) = a9
    generalize decide (t.overs.length = 0) = b1
    rw [Bool.eq_iff_iff]
    simp
    grind
  rw [if_neg h3, if_neg h3]
  by_cases h9 : t.kind = 9 ∨ t.kind = 11
  · rw [if_pos h9, if_pos h9]
    unfold heldB brandedB zeroB noParts noBrand brandingB topB plainsB clearB numsB oneB
    simp only [isEmpty_strEq, lens_zero]
    match hp : t.parts with
    | [] => simp
    | [p] =>
      have : strEq ByteArray.empty ByteArray.empty = true := by unfold strEq; simp
      simp only [this, List.any_cons, List.any_nil, partBad, List.length_cons, List.length_nil, List.head?_cons, Option.map_some, Option.getD_some]
      generalize isBrandB t.brand = a1
      generalize t.branded = a2
      generalize strEq t.brand ByteArray.empty = a3
      generalize strEq t.opaq ByteArray.empty = a4
      generalize strEq p.name ByteArray.empty = a5
      generalize hasB g.length p.type = a6
      generalize decide (t.low = 0) = a7
      generalize decide (t.high = 0) = a8
      generalize decide (t.super = 0) = a9
      rw [Bool.eq_iff_iff]
      simp
      grind
    | p :: q :: r => simp
  rw [if_neg h9, if_neg h9]
  have he : strEq ByteArray.empty ByteArray.empty = true := by unfold strEq; simp
  by_cases h10 : t.kind = 10
  · rw [if_pos h10, if_pos h10]
    unfold recordedB brandedB zeroB noParts noBrand brandingB topB plainsB clearB numsB partsB differentB
    simp only [isEmpty_strEq, lens_zero, parts_law, he, List.length_map, le8]
    have h1 : decide (1 ≤ t.parts.length) = decide (0 < t.parts.length) := rfl
    rw [h1]
    generalize isBrandB t.brand = a1
    generalize t.branded = a2
    generalize strEq t.brand ByteArray.empty = a3
    generalize strEq t.opaq ByteArray.empty = a4
    generalize t.parts.any (partBad g.length) = a5
    generalize distinctFrom [] (t.parts.map Part.name) = a6
    generalize decide (0 < t.parts.length) = a7
    generalize decide (t.parts.length ≤ 8) = a8
    generalize decide (t.low = 0) = a9
    generalize decide (t.high = 0) = b1
    generalize decide (t.super = 0) = b2
    rw [Bool.eq_iff_iff]
    simp
    grind
  rw [if_neg h10, if_neg h10]
  by_cases h12 : t.kind = 12
  · rw [if_pos h12, if_pos h12]
    unfold objectsB brandedB zeroB noObject noBrand brandingB clearB numsB partsB differentB objectB methsB differentB
    simp only [isEmpty_strEq, lens_zero, parts_law, meths_law, overs_law, he, List.length_map, le8]
    generalize isBrandB t.brand = a1
    generalize t.branded = a2
    generalize strEq t.brand ByteArray.empty = a3
    generalize strEq t.opaq ByteArray.empty = a4
    generalize t.parts.any (partBad g.length) = a5
    generalize distinctFrom [] (t.parts.map Part.name) = a6
    generalize decide (t.parts.length ≤ 8) = a7
    generalize decide (t.low = 0) = a8
    generalize decide (t.high = 0) = a9
    generalize t.methods.any (badMethod g.length) = b1
    generalize distinctFrom [] (t.methods.map Method.name) = b2
    generalize decide (t.methods.length ≤ 8) = b3
    generalize t.overs.any badOver = b4
    generalize distinctFrom [] (t.overs.map Over.name) = b5
    generalize decide (t.overs.length ≤ 8) = b6
    generalize overB g t.super kindsObject = b7
    rw [Bool.eq_iff_iff]
    simp
    grind
  rw [if_neg h12, if_neg h12]
  by_cases h13 : t.kind = 13
  · rw [if_pos h13, if_pos h13]
    unfold opaqueB zeroB noOpaque brandlessB plainsB numsB bareB
    simp only [isEmpty_strEq, lens_zero, he]
    cases isSymbolB t.opaq <;> cases t.branded <;> cases strEq t.brand ByteArray.empty <;> cases overB g t.super kindsOpaque <;> cases decide (t.low = 0) <;> cases decide (t.high = 0) <;> cases decide (t.parts.length = 0) <;> simp
  rw [if_neg h13, if_neg h13]
  by_cases h1 : 1 ≤ t.kind ∧ t.kind < 14
  · rw [if_pos h1, decide_eq_true h1]
    unfold zeroB brandlessB topB plainsB numsB bareB clearB
    simp only [isEmpty_strEq, lens_zero, Bool.true_and]
    cases t.branded <;> cases strEq t.brand ByteArray.empty <;> cases strEq t.opaq ByteArray.empty <;> cases decide (t.low = 0) <;> cases decide (t.high = 0) <;> cases decide (t.super = 0) <;> cases decide (t.parts.length = 0) <;> simp
  · rw [if_neg h1, decide_eq_false h1, Bool.false_and]
/-! ### the walk up -/
def upN (g : Graph) : Nat → Nat → Nat
  | 0, a => a
  | k + 1, a => upN g k (superN g a)
theorem upN_succ (g : Graph) : ∀ k a, upN g (k + 1) a = superN g (upN g k a)
  | 0, a => rfl
  | k + 1, a => by rw [upN, upN_succ g k]; rfl
theorem upN_add (g : Graph) (j : Nat) : ∀ k a, upN g (j + k) a = upN g j (upN g k a)
  | 0, a => rfl
  | k + 1, a => by rw [← Nat.add_assoc, upN, upN_add g j k]; rfl
theorem cycN_iff (g : Graph) (i : Nat) : ∀ m a, cycN g i m a = true ↔ ∃ k, 1 ≤ k ∧ k ≤ m ∧ (∀ j, j < k → hasSuperB (getT g (upN g j a)).kind = true) ∧ upN g k a = i
  | 0, a => by
    constructor
    · intro h; simp [cycN] at h
    · rintro ⟨k, h1, h2, _⟩; omega
  | m + 1, a => by
    unfold cycN
    rw [Bool.and_eq_true, Bool.or_eq_true, decide_eq_true_iff, cycN_iff g i m]
    constructor
    · rintro ⟨h1, h2 | ⟨k, k1, k2, k3, k4⟩⟩
      · exact ⟨1, by omega, by omega, fun j hj => by obtain rfl : j = 0 := by omega
                                                     exact h1, h2⟩
      · refine ⟨k + 1, by omega, by omega, fun j hj => ?_, k4⟩
        cases j with
        | zero => exact h1
        | succ j => exact k3 j (by omega)
    · rintro ⟨k, k1, k2, k3, k4⟩
      refine ⟨k3 0 (by omega), ?_⟩
      cases k with
      | zero => omega
      | succ k =>
        by_cases hk : k = 0
        · subst hk; exact .inl k4
        · exact .inr ⟨k, by omega, by omega, fun j hj => k3 (j + 1) (by omega), k4⟩
theorem cyc_more {g : Graph} (hr : ∀ t ∈ g, rightB g t = true) {i : Nat} (hi : i < g.length) : cycN g i (g.length + 1) i = cycN g i g.length i := by
  rw [Bool.eq_iff_iff, cycN_iff, cycN_iff]
  constructor
  · rintro h
    obtain ⟨k, _, ⟨k1, k2, k3, k4⟩, hmin⟩ := least_exists (p := fun k => 1 ≤ k ∧ k ≤ g.length + 1 ∧ (∀ j, j < k → hasSuperB (getT g (upN g j i)).kind = true) ∧ upN g k i = i) _ h.choose_spec
    refine ⟨k, k1, ?_, k3, k4⟩
    have hrng : ∀ j, j < k → upN g j i < g.length := by
      intro j hj
      induction j with
      | zero => exact hi
      | succ j ih =>
        have h0 := ih (by omega)
        have hs := k3 j (by omega)
        have hf := right_fine (hr _ (getT_mem h0))
        rw [upN_succ]
        have := hf.super hs
        unfold superN
        omega
    have hnd : ((List.range k).map fun j => upN g j i).Nodup := by
      rw [List.nodup_iff_pairwise_ne, List.pairwise_map]
      refine List.Pairwise.imp_of_mem ?_ (List.pairwise_lt_range (n := k))
      intro p q hp hq hpq he
      rw [List.mem_range] at hp hq
      have h2 : upN g (k - q + p) i = i := by
        rw [upN_add, he, ← upN_add, show k - q + q = k by omega]
        exact k4
      exact hmin (k - q + p) (by omega) ⟨by omega, by omega, fun j hj => k3 j (by omega), h2⟩
    have := nodup_length_le (l := List.range g.length) hnd (fun x hx => by
      obtain ⟨j, hj, rfl⟩ := List.mem_map.1 hx
      rw [List.mem_range] at hj ⊢
      exact hrng j hj)
    simpa using this
  · rintro ⟨k, k1, k2, k3, k4⟩
    exact ⟨k, k1, by omega, k3, k4⟩
end Go.Proofs.YtldnjnnhfeobdaaGreatDoor
/- Contracts of the reference: equal lists of strings, signatures, parts. Conditions: lengths below 2^20. -/
namespace Go.Proofs.YtldnjnnhfeobdaaGreatDoor
set_option linter.all false
set_option linter.unusedSimpArgs false
set_option linter.unusedVariables false
open Go.RowKit Go.Shelf

set_option maxRecDepth 100000 in
set_option maxHeartbeats 4000000 in
theorem rstrings_any (w : World) (u v : Value) (xs ys : List ByteArray) (hu : Sl strE w u xs) (hv : Sl strE w v ys) (hx : xs.length ≤ 1048576) (hy : ys.length ≤ 1048576) :
    Calls Tryz.prog 86 #[u, v] w (Ret w (.bool (eqF strEq xs ys))) := by
  obtain ⟨A, ca, rfl, ha⟩ := hu.str
  obtain ⟨B, cb, rfl, hb⟩ := hv.str
  have Ha := Lib.hid ha
  have Hb := Lib.hid hb
  clear ha hb hu hv
  by_cases hl : xs.length = ys.length
  · have hl' : ((xs.length : Int) == (ys.length : Int)) = true := by simp; omega
    have hln : ((xs.length : Int) != (ys.length : Int)) = false := by simp; omega
    obtain ⟨wo, rfl⟩ : ∃ wo : World, wo = w := ⟨_, rfl⟩
    go_enter Tryz.func86, Tryz.ntmps86
    go_wp2_with fail
    go_loopw [5] (fun u wr => ∃ k : Nat, k ≤ xs.length ∧ u = .int .i64 k ∧ Hid (Ext wo wr) ∧ Hid (∀ j (h1 : j < xs.length) (h2 : j < ys.length), j < k → strEq xs[j] ys[j] = true)) (fun u _ => xs.length - (intOf u).toNat)
    case atStart => exact ⟨0, by omega, rfl, Lib.hid (Ext.refl _), Lib.hid (fun j _ _ h => by omega)⟩
    case round =>
      obtain ⟨k, hk, rfl, Hx, Hno⟩ := hrel
      by_cases hlt : k < xs.length
      · obtain ⟨b1, o1, rfl, c1⟩ := Ha.out k hlt
        obtain ⟨b2, o2, rfl, c2⟩ := Hb.out k (by omega)
        replace c1 := Hx.out.cell c1
        replace c2 := Hx.out.cell c2
        have l1 := cell_lt c1
        have l2 := cell_lt c2
        have i0 : (0 : Int) ≤ (k : Int) := by omega
        have i1 : (k : Int) < (xs.length : Int) := by omega
        have i2 : (k : Int) < (ys.length : Int) := by omega
        have hlt2 : k < ys.length := by omega
        have Hs := Lib.hid (show strEq xs[k] ys[k] = (xs[k].toList == ys[k].toList) from rfl)
        cases he : (xs[k].toList == ys[k].toList) with
        | true =>
          have Hse := Lib.hid (Hs.out.trans he)
          have hnext := fun j (h1 : j < xs.length) (h2 : j < ys.length) (hjk : j < k + 1) => if e : j = k then (by subst e; exact Hse.out : strEq xs[j] ys[j] = true) else Hno.out j h1 h2 (by omega)
          have Hn := Lib.hid hnext
          have he2 : xs[k].toList = ys[k].toList := by simpa using he
          clear hnext
          go_wp2_with fail
          go_quiet (fail)
          go_wp2_with fail
          go_roundw
          case rel => exact ⟨k + 1, by omega, by go_num, Lib.hid (Hx.out.drewN _), Hn⟩
          case measure => simp [intOf]; omega
        | false =>
          have hf : eqF strEq xs ys = false := eqF_no hlt hlt2 (Hs.out.trans he)
          have he2 : ¬ xs[k].toList = ys[k].toList := by simpa using he
          have he3 : (xs[k].toList != ys[k].toList) = true := by simpa using he
          have Hf := Lib.hid hf
          clear hf Hs
          generalize xs[k] = x at *
          generalize ys[k] = y at *
          go_wp2_with fail
          go_quiet (fail)
          go_wp2_with fail
          go_ret
          rw [Hf.out]
          exact ⟨rfl, Hx.out.drewN _⟩
      · have i1 : ¬ (k : Int) < (xs.length : Int) := by omega
        have hf : eqF strEq xs ys = true := eqF_yes hl (j := k) hlt (fun i h1 h2 h3 => Hno.out i h1 h2 h3)
        have Hf := Lib.hid hf
        clear hf
        go_wp2_with fail
        go_ret
        rw [Hf.out]
        exact ⟨rfl, Hx.out⟩
  · have hln : ((xs.length : Int) != (ys.length : Int)) = true := by simp; omega
    have hf : eqF strEq xs ys = false := eqF_len hl
    rw [hf]
    go_enter Tryz.func86, Tryz.ntmps86
    go_wp2_with fail
    go_ret
    exact ⟨rfl, Ext.refl _⟩
theorem sig_long {n : Nat} {m : Method} (h : 6 < m.args.length ∨ 6 < m.raises.length ∨ m.result < -1 ∨ (n : Int) ≤ m.result) : sigB n m = false := by
  cases hb : sigB n m with
  | false => rfl
  | true =>
    unfold sigB at hb
    simp only [Bool.and_eq_true, decide_eq_true_iff, Bool.or_eq_true, hasB_iff] at hb
    omega
theorem sig_arg {n : Nat} {m : Method} {k : Nat} (hk : k < m.args.length) (h : m.args[k] < 0 ∨ (n : Int) ≤ m.args[k]) : sigB n m = false := by
  cases hb : sigB n m with
  | false => rfl
  | true =>
    unfold sigB at hb
    simp only [Bool.and_eq_true, Bool.not_eq_true', List.any_eq_false] at hb
    have := hb.1.2.2.2 _ (List.getElem_mem hk)
    have h2 : hasB n m.args[k] = true := by simpa using this
    rw [hasB_iff] at h2
    omega
theorem sig_rest {n : Nat} {m : Method} (h1 : ¬ 6 < m.args.length) (h2 : ¬ 6 < m.raises.length) (h3 : ¬ m.result < -1) (h4 : ¬ (n : Int) ≤ m.result)
    (h5 : ∀ j (hj : j < m.args.length), 0 ≤ m.args[j] ∧ m.args[j] < n) : sigB n m = raisesFrom none m.raises := by
  unfold sigB
  have e1 : decide (m.args.length ≤ 6) = true := decide_eq_true (by omega)
  have e2 : decide (m.raises.length ≤ 6) = true := decide_eq_true (by omega)
  have e3 : (decide (m.result = -1) || hasB n m.result) = true := by
    by_cases h : m.result = -1
    · simp [h]
    · rw [Bool.or_eq_true]; exact .inr (hasB_iff.2 (by omega))
  have e4 : (m.args.any fun i => !hasB n i) = false := by
    rw [List.any_eq_false]
    intro x hx
    obtain ⟨j, hj, rfl⟩ := List.mem_iff_getElem.1 hx
    simp [hasB_iff.2 (h5 j hj)]
  rw [e1, e2, e3, e4]
  rfl
set_option maxRecDepth 100000 in
set_option maxHeartbeats 8000000 in
theorem rsig_any (w : World) (A : Option Addr) (n cap : Nat) (m : Method) (va vr : Value) (hn : n ≤ 1048576) (ha : Sl intE w va m.args) (hr : Sl strE w vr m.raises)
    (hal : m.args.length ≤ 1048576) (hrl : m.raises.length ≤ 1048576) (hrs : ∀ r ∈ m.raises, r.size ≤ 1048576) :
    Calls Tryz.prog 161 #[.slice A n cap, .agg #[va, .int .i64 m.result, vr]] w (Ret w (.bool (sigB n m))) := by
  obtain ⟨Aa, ca, rfl, hca⟩ := ha.int
  obtain ⟨Ar, cr, rfl, hcr⟩ := hr.str
  have Hca := Lib.hid hca
  have Hcr := Lib.hid hcr
  have Hrs := Lib.hid hrs
  clear ha hr hca hcr hrs
  by_cases h1 : 6 < m.args.length
  · have p1 : (6 : Int) < (m.args.length : Int) := by omega
    rw [sig_long (.inl h1)]
    go_enter Tryz.func161, Tryz.ntmps161
    go_wp2_with fail
    go_ret
    exact ⟨rfl, (Ext.refl _).alloc _⟩
  by_cases h2 : 6 < m.raises.length
  · have p1 : ¬ (6 : Int) < (m.args.length : Int) := by omega
    have p2 : (6 : Int) < (m.raises.length : Int) := by omega
    rw [sig_long (.inr (.inl h2))]
    go_enter Tryz.func161, Tryz.ntmps161
    go_wp2_with fail
    go_ret
    exact ⟨rfl, (Ext.refl _).alloc _⟩
  by_cases h3 : m.result < -1
  · have p1 : ¬ (6 : Int) < (m.args.length : Int) := by omega
    have p2 : ¬ (6 : Int) < (m.raises.length : Int) := by omega
    rw [sig_long (.inr (.inr (.inl h3)))]
    go_enter Tryz.func161, Tryz.ntmps161
    go_wp2_with fail
    go_ret
    exact ⟨rfl, (Ext.refl _).alloc _⟩
  by_cases h4 : (n : Int) ≤ m.result
  · have p1 : ¬ (6 : Int) < (m.args.length : Int) := by omega
    have p2 : ¬ (6 : Int) < (m.raises.length : Int) := by omega
    rw [sig_long (.inr (.inr (.inr h4)))]
    go_enter Tryz.func161, Tryz.ntmps161
    go_wp2_with fail
    go_ret
    exact ⟨rfl, (Ext.refl _).alloc _⟩
  have p1 : ¬ (6 : Int) < (m.args.length : Int) := by omega
  have p2 : ¬ (6 : Int) < (m.raises.length : Int) := by omega
  have hx0 := (Ext.refl w).alloc (.cells #[.slice Aa m.args.length ca, .int .i64 m.result, .slice Ar m.raises.length cr] 72)
  have hbx := heap_alloc_self w (.cells #[.slice Aa m.args.length ca, .int .i64 m.result, .slice Ar m.raises.length cr] 72)
  have Hc0 := Lib.hid (heap_cell hbx 0 _ rfl)
  have Hc2 := Lib.hid (heap_cell hbx 2 _ rfl)
  have Hx0 := Lib.hid hx0
  have Hrest := Lib.hid (fun h5 => sig_rest (n := n) h1 h2 h3 h4 h5)
  clear hx0 hbx
  go_enter Tryz.func161, Tryz.ntmps161
  go_wp2_with fail
  generalize (w.alloc (.cells #[.slice Aa m.args.length ca, .int .i64 m.result, .slice Ar m.raises.length cr] 72)) = w1 at *
  generalize w.heap.size = b1 at *
  go_loopw [5] (fun u wr => ∃ k : Nat, k ≤ m.args.length ∧ u = .int .i64 k ∧ wr = w1 ∧ Hid (∀ j (hj : j < m.args.length), j < k → 0 ≤ m.args[j] ∧ m.args[j] < n)) (fun u _ => m.args.length - (intOf u).toNat)
  case atStart => exact ⟨0, by omega, rfl, rfl, Lib.hid (fun j _ h => by omega)⟩
  case round =>
    obtain ⟨k, hk, rfl, rfl, Hno⟩ := hrel
    have d0 := Hc0.out
    have l0 := cell_lt d0
    by_cases hlt : k < m.args.length
    · obtain ⟨b, off, rfl, a0⟩ := Hca.out k hlt
      replace a0 := Hx0.out.cell a0
      have la := cell_lt a0
      have i0 : (0 : Int) ≤ (k : Int) := by omega
      have i1 : (k : Int) < (m.args.length : Int) := by omega
      have hbad := sig_arg (n := n) hlt
      have hnext := fun (h : 0 ≤ m.args[k] ∧ m.args[k] < n) j (hj : j < m.args.length) (hjk : j < k + 1) => if e : j = k then (by subst e; exact h : 0 ≤ m.args[j] ∧ m.args[j] < n) else Hno.out j hj (by omega)
      have Hbad := Lib.hid hbad
      have Hnext := Lib.hid hnext
      clear hbad hnext
      generalize m.args[k] = x at *
      by_cases c1 : x < 0
      · have Hb := Lib.hid (Hbad.out (.inl c1))
        go_wp2_with fail
        go_ret
        rw [Hb.out]
        exact ⟨rfl, Hx0.out⟩
      · by_cases c2 : (n : Int) ≤ x
        · have Hb := Lib.hid (Hbad.out (.inr c2))
          go_wp2_with fail
          go_ret
          rw [Hb.out]
          exact ⟨rfl, Hx0.out⟩
        · have Hn := Lib.hid (Hnext.out (by omega))
          go_wp2_with fail
          go_roundw
          case rel => exact ⟨k + 1, by omega, by go_num, trivial, Hn⟩
          case measure => simp [intOf]; omega
    · have hrest := Hrest.out (fun j hj => Hno.out j hj (by omega))
      have i1 : ¬ (k : Int) < (m.args.length : Int) := by omega
      have Hsig := Lib.hid hrest
      clear hrest Hno hk
      go_wp2_with fail
      obtain ⟨wa, rfl⟩ : ∃ wa : World, wa = wr := ⟨_, rfl⟩
      go_loopw [6] (fun u wr => ∃ k : Nat, k ≤ m.raises.length ∧ u = .int .i64 k ∧ Hid (Ext wa wr) ∧ Hid (raisesFrom none m.raises = raisesFrom (prevAt m.raises k) (m.raises.drop k))) (fun u _ => m.raises.length - (intOf u).toNat)
      case atStart => exact ⟨0, by omega, rfl, Lib.hid (Ext.refl _), by simp [Hid, prevAt]⟩
      case round =>
        clear d0 l0
        obtain ⟨k, hk, rfl, Hx, Hinv⟩ := hrel
        have d2 := Hx.out.cell Hc2.out
        have l2 := cell_lt d2
        by_cases hlt : k < m.raises.length
        · obtain ⟨b, off, rfl, a0⟩ := Hcr.out k hlt
          replace a0 := (Hx0.out.trans Hx.out).cell a0
          have la := cell_lt a0
          have i0 : (0 : Int) ≤ (k : Int) := by omega
          have i1 : (k : Int) < (m.raises.length : Int) := by omega
          have Hinv2 : Hid (raisesFrom none m.raises = (raiseOk (prevAt m.raises k) m.raises[k] && raisesFrom (prevAt m.raises (k + 1)) (m.raises.drop (k + 1)))) := by
            rw [Hinv.out, raises_step _ _ hlt]; rfl
          have Hal := Lib.hid (show (m.raises[k].toList == [65, 76, 69, 82, 84, 69, 68]) = strEq m.raises[k] alerted by rw [← alerted_toList]; rfl)
          have hsz := Hrs.out _ (List.getElem_mem hlt)
          have Hsy := Lib.hid (fun w => rsymbol_any m.raises[k] w hsz)
          have Hbad := Lib.hid (fun (h : raiseOk (prevAt m.raises k) m.raises[k] = false) => (Hsig.out.trans (Hinv2.out.trans (by rw [h]; rfl)) : sigB n m = false))
          have Hgood := Lib.hid (fun (h : raiseOk (prevAt m.raises k) m.raises[k] = true) => (Hinv2.out.trans (by rw [h]; exact Bool.true_and _) : raisesFrom none m.raises = raisesFrom (prevAt m.raises (k + 1)) (m.raises.drop (k + 1))))
          have hprev : ∃ pl : Bool, Hid (raiseOk (prevAt m.raises k) m.raises[k] = ((strEq m.raises[k] alerted || isSymbolB m.raises[k]) && pl)) ∧
              (k = 0 ∧ pl = true ∨ ∃ i, k = i + 1 ∧ ∃ (hi : i < m.raises.length), Op.bytesLess m.raises[i].toList m.raises[k].toList = pl) := by
            cases k with
            | zero => exact ⟨true, rfl, .inl ⟨rfl, rfl⟩⟩
            | succ i => exact ⟨lessB m.raises[i] m.raises[i + 1], by simp only [Hid, raiseOk, prevAt_pos _ _ hlt], .inr ⟨i, rfl, by omega, rfl⟩⟩
          obtain ⟨pl, Hro, hpl⟩ := hprev
          clear Hinv Hinv2
          generalize hr : m.raises[k] = r at *
          generalize strEq r alerted = al at Hal Hro
          generalize isSymbolB r = sy at Hsy Hro
          have hal := Hal.out
          clear Hal hsz hr
          cases al with
          | false =>
            have hal2 : ¬ r.toList = [65, 76, 69, 82, 84, 69, 68] := by simpa using hal
            have hal3 : (r.toList != [65, 76, 69, 82, 84, 69, 68]) = true := by simpa using hal
            cases sy with
            | false =>
              have Hb := Lib.hid (Hbad.out Hro.out)
              go_wp2_with fail
              go_quiet ((go_at_call 30; exact Calls.quiet_of_same (Hsy.out _)))
              go_wp2_with fail
              go_ret
              rw [Hb.out]
              exact ⟨rfl, Hx0.out.trans (Hx.out.drewN _)⟩
            | true =>
              rcases hpl with ⟨rfl, rfl⟩ | ⟨i, rfl, hi, hless⟩
              · have Hg := Lib.hid (Hgood.out Hro.out)
                have j0 : decide ((0 : Int) < ((0 : Nat) : Int)) = false := rfl
                simp only [Nat.add_zero] at a0 la
                clear Hro
                go_wp2_with fail
                go_quiet ((go_at_call 30; exact Calls.quiet_of_same (Hsy.out _)))
                go_wp2_with fail
                go_roundw
                case rel => exact ⟨1, by omega, by go_num, Lib.hid (Hx.out.drewN _), Hg⟩
                case measure => simp [intOf]; omega
              · obtain ⟨b', off', hb', a1⟩ := Hcr.out i hi
                cases hb'
                replace a1 := (Hx0.out.trans Hx.out).cell a1
                generalize m.raises[i] = p at *
                have j0 : decide ((0 : Int) < ((i + 1 : Nat) : Int)) = true := decide_eq_true (by omega)
                have j1 : (0 : Int) < ((i + 1 : Nat) : Int) := by omega
                cases pl with
                | true =>
                  have Hg := Lib.hid (Hgood.out Hro.out)
                  clear Hro
                  go_wp2_with fail
                  go_quiet ((go_at_call 30; exact Calls.quiet_of_same (Hsy.out _)))
                  go_wp2_with fail
                  go_roundw
                  case rel => exact ⟨i + 1 + 1, by omega, by go_num, Lib.hid (Hx.out.drewN _), Hg⟩
                  case measure => simp [intOf]; omega
                | false =>
                  have Hb := Lib.hid (Hbad.out Hro.out)
                  clear Hro
                  go_wp2_with fail
                  go_quiet ((go_at_call 30; exact Calls.quiet_of_same (Hsy.out _)))
                  go_wp2_with fail
                  go_ret
                  rw [Hb.out]
                  exact ⟨rfl, Hx0.out.trans (Hx.out.drewN _)⟩
          | true =>
            have hal3 : (r.toList != [65, 76, 69, 82, 84, 69, 68]) = false := by simpa using hal
            rcases hpl with ⟨rfl, rfl⟩ | ⟨i, rfl, hi, hless⟩
            · have Hg := Lib.hid (Hgood.out Hro.out)
              have j0 : decide ((0 : Int) < ((0 : Nat) : Int)) = false := rfl
              simp only [Nat.add_zero] at a0 la
              clear Hro
              go_wp2_with fail
              go_quiet (fail)
              go_wp2_with fail
              go_roundw
              case rel => exact ⟨1, by omega, by go_num, Lib.hid (Hx.out.drewN _), Hg⟩
              case measure => simp [intOf]; omega
            · obtain ⟨b', off', hb', a1⟩ := Hcr.out i hi
              cases hb'
              replace a1 := (Hx0.out.trans Hx.out).cell a1
              generalize m.raises[i] = p at *
              have j0 : decide ((0 : Int) < ((i + 1 : Nat) : Int)) = true := decide_eq_true (by omega)
              have j1 : (0 : Int) < ((i + 1 : Nat) : Int) := by omega
              cases pl with
              | true =>
                have Hg := Lib.hid (Hgood.out Hro.out)
                clear Hro
                go_wp2_with fail
                go_quiet (fail)
                go_wp2_with fail
                go_roundw
                case rel => exact ⟨i + 1 + 1, by omega, by go_num, Lib.hid (Hx.out.drewN _), Hg⟩
                case measure => simp [intOf]; omega
              | false =>
                have Hb := Lib.hid (Hbad.out Hro.out)
                clear Hro
                go_wp2_with fail
                go_quiet (fail)
                go_wp2_with fail
                go_ret
                rw [Hb.out]
                exact ⟨rfl, Hx0.out.trans (Hx.out.drewN _)⟩
        · have hf : raisesFrom none m.raises = true := by rw [Hinv.out, List.drop_of_length_le (by omega)]; rfl
          have i1 : ¬ (k : Int) < (m.raises.length : Int) := by omega
          have Hf := Lib.hid (Hsig.out.trans hf)
          clear hf
          go_wp2_with fail
          go_ret
          rw [Hf.out]
          exact ⟨rfl, Hx0.out.trans Hx.out⟩
end Go.Proofs.YtldnjnnhfeobdaaGreatDoor
/- Contract of the reference: parts have different names, and types of a graph. Conditions: lengths below 2^20. -/
namespace Go.Proofs.YtldnjnnhfeobdaaGreatDoor
set_option linter.all false
set_option linter.unusedSimpArgs false
set_option linter.unusedVariables false
open Go.RowKit Go.Shelf

theorem memB_yes {α : Type} (nm : α → ByteArray) {l : List α} {j k : Nat} (hjk : j < k) (hk : k < l.length) (h : (nm l[j]).toList = (nm l[k]).toList) : memB (nm l[k]) ((l.take k).map nm) = true := by
  rw [memB_iff, ← ba_toList_inj h]
  refine List.mem_map_of_mem ?_
  rw [List.mem_take_iff_getElem]
  exact ⟨j, by omega, rfl⟩
theorem memB_no {α : Type} (nm : α → ByteArray) {l : List α} {k : Nat} (hk : k < l.length) (h : ∀ j (hj : j < l.length), j < k → ¬ (nm l[j]).toList = (nm l[k]).toList) : memB (nm l[k]) ((l.take k).map nm) = false := by
  cases hb : memB (nm l[k]) ((l.take k).map nm) with
  | false => rfl
  | true =>
    rw [memB_iff] at hb
    obtain ⟨x, hx, he⟩ := List.mem_map.1 hb
    rw [List.mem_take_iff_getElem] at hx
    obtain ⟨j, hj, rfl⟩ := hx
    exact absurd (by rw [he]) (h j (by omega) (by omega))
theorem parts_step (n : Nat) (l : List Part) (k : Nat) (hk : k < l.length) : partsFrom n ((l.take k).map Part.name) (l.drop k) =
    (isNameB l[k].name && (hasB n l[k].type && (!memB l[k].name ((l.take k).map Part.name) && partsFrom n ((l.take (k + 1)).map Part.name) (l.drop (k + 1))))) := by
  rw [drop_cons' l k hk, partsFrom, ← take_snoc' l k hk, List.map_append]; rfl
theorem parts_end (n : Nat) (l : List Part) (k : Nat) (hk : ¬ k < l.length) : partsFrom n ((l.take k).map Part.name) (l.drop k) = true := by
  rw [List.drop_of_length_le (by omega)]; rfl
theorem hasB_out {n : Nat} {i : Int} (h : ¬ (0 ≤ i ∧ i < n)) : hasB n i = false := by
  cases hb : hasB n i with
  | false => rfl
  | true => exact absurd (hasB_iff.1 hb) h
set_option maxRecDepth 100000 in
set_option maxHeartbeats 8000000 in
theorem rparts_any (w : World) (A : Option Addr) (n cap : Nat) (v : Value) (l : List Part) (hn : n ≤ 1048576) (hv : Sl partE w v l) (hl : l.length ≤ 1048576) (hs : ∀ p ∈ l, p.name.size ≤ 1048576) :
    Calls Tryz.prog 118 #[.slice A n cap, v] w (Ret w (.bool (partsB n l))) := by
  obtain ⟨B, cb, rfl, hc⟩ := hv.part
  have Hc := Lib.hid hc
  have Hs := Lib.hid hs
  clear hc hs hv
  obtain ⟨wo, rfl⟩ : ∃ wo : World, wo = w := ⟨_, rfl⟩
  have Hbad := Lib.hid (fun (h : partsFrom n [] l = false) => (show partsB n l = false by unfold partsB; rw [h]; rfl))
  have Hgood := Lib.hid (fun (h : partsFrom n [] l = true) => (show partsB n l = decide (l.length ≤ 8) by unfold partsB; rw [h]; rfl))
  go_enter Tryz.func118, Tryz.ntmps118
  go_wp2_with fail
  go_loopw [5] (fun u wr => ∃ k : Nat, k ≤ l.length ∧ u = .int .i64 k ∧ Hid (Ext wo wr) ∧ Hid (partsFrom n [] l = partsFrom n ((l.take k).map Part.name) (l.drop k))) (fun u _ => l.length - (intOf u).toNat)
  case atStart => exact ⟨0, by omega, rfl, Lib.hid (Ext.refl _), Lib.hid rfl⟩
  case round =>
    obtain ⟨k, hk, rfl, Hx, Hinv⟩ := hrel
    by_cases hlt : k < l.length
    · obtain ⟨b, off, rfl, p0, p1⟩ := Hc.out k hlt
      have P0 := Lib.hid p0
      replace p0 := Hx.out.cell p0
      replace p1 := Hx.out.cell p1
      have lp := cell_lt p0
      have i0 : (0 : Int) ≤ (k : Int) := by omega
      have i1 : (k : Int) < (l.length : Int) := by omega
      have Hstep := Lib.hid (Hinv.out.trans (parts_step n l k hlt))
      have hsz := Hs.out _ (List.getElem_mem hlt)
      have Hnm := Lib.hid (fun w => rname_any l[k].name w hsz)
      have Hyes := Lib.hid (fun j (hj : j < k) => memB_yes Part.name (j := j) hj hlt)
      have Hnone := Lib.hid (memB_no Part.name hlt)
      generalize hp : l[k] = p at *
      clear hsz Hinv hp
      cases hname : isNameB p.name with
      | false =>
        have Hb := Lib.hid (Hbad.out (Hstep.out.trans (by rw [hname]; rfl)))
        have Hname := Lib.hid hname
        clear hname
        go_wp2_with fail
        refine (Hnm.out _).mono ?_
        rintro e w1 ⟨rfl, rfl⟩
        rw [Hname.out]
        go_wp2_with fail
        go_ret
        rw [Hb.out]
        exact ⟨rfl, Hx.out⟩
      | true =>
        have Hname := Lib.hid hname
        clear hname
        by_cases c1 : p.type < 0
        · have Hb := Lib.hid (Hbad.out (Hstep.out.trans (by rw [Hname.out, hasB_out (by omega)]; rfl)))
          go_wp2_with fail
          refine (Hnm.out _).mono ?_
          rintro e w1 ⟨rfl, rfl⟩
          rw [Hname.out]
          go_wp2_with fail
          go_ret
          rw [Hb.out]
          exact ⟨rfl, Hx.out⟩
        by_cases c2 : (n : Int) ≤ p.type
        · have Hb := Lib.hid (Hbad.out (Hstep.out.trans (by rw [Hname.out, hasB_out (by omega)]; rfl)))
          go_wp2_with fail
          refine (Hnm.out _).mono ?_
          rintro e w1 ⟨rfl, rfl⟩
          rw [Hname.out]
          go_wp2_with fail
          go_ret
          rw [Hb.out]
          exact ⟨rfl, Hx.out⟩
        have Hstep2 : Hid (partsFrom n [] l = (!memB p.name ((l.take k).map Part.name) && partsFrom n ((l.take (k + 1)).map Part.name) (l.drop (k + 1)))) := by
          rw [Hstep.out, Hname.out, hasB_iff.2 (by omega)]; rfl
        clear Hstep
        go_wp2_with fail
        refine (Hnm.out _).mono ?_
        rintro e w1 ⟨rfl, rfl⟩
        rw [Hname.out]
        go_wp2_with fail
        clear Hnm Hname
        obtain ⟨wa, rfl⟩ : ∃ wa : World, wa = w1 := ⟨_, rfl⟩
        go_loopw [6] (fun u wr => ∃ j : Nat, j ≤ k ∧ u = .int .i64 j ∧ Hid (Ext wo wr) ∧ Hid (∀ i (hi : i < l.length), i < j → ¬ l[i].name.toList = p.name.toList)) (fun u _ => k - (intOf u).toNat)
        case atStart => exact ⟨0, by omega, rfl, Hx, Lib.hid (fun i _ h => by omega)⟩
        case round =>
          clear p0 p1 lp
          obtain ⟨j, hj, rfl, Hx2, Hno⟩ := hrel
          have p0 := Hx2.out.cell P0.out
          have lp := cell_lt p0
          by_cases hjk : j < k
          · have hjl : j < l.length := by omega
            obtain ⟨b', off', e', q0, q1⟩ := Hc.out j hjl
            cases e'
            replace q0 := Hx2.out.cell q0
            have j0 : (0 : Int) ≤ (j : Int) := by omega
            have j1 : (j : Int) < (k : Int) := by omega
            have j2 : (j : Int) < (l.length : Int) := by omega
            have hyes := Hyes.out j hjk
            have hnext := fun (h : ¬ l[j].name.toList = p.name.toList) i (hi : i < l.length) (hij : i < j + 1) => if e : i = j then (by subst e; exact h : ¬ l[i].name.toList = p.name.toList) else Hno.out i hi (by omega)
            have Hyes1 := Lib.hid hyes
            have Hnext := Lib.hid hnext
            generalize l[j] = q at *
            clear q1 hyes hnext
            cases he : (q.name.toList == p.name.toList) with
            | true =>
              have he2 : q.name.toList = p.name.toList := by simpa using he
              have Hb := Lib.hid (Hbad.out (Hstep2.out.trans (by rw [Hyes1.out he2]; rfl)))
              go_wp2_with fail
              go_quiet (fail)
              go_wp2_with fail
              go_ret
              rw [Hb.out]
              exact ⟨rfl, Hx2.out.drewN _⟩
            | false =>
              have he2 : ¬ q.name.toList = p.name.toList := by simpa using he
              have Hn := Lib.hid (Hnext.out he2)
              go_wp2_with fail
              go_quiet (fail)
              go_wp2_with fail
              go_roundw
              case rel => exact ⟨j + 1, by omega, by go_num, Lib.hid (Hx2.out.drewN _), Hn⟩
              case measure => simp [intOf]; omega
          · have hjn : j = k := by omega
            subst hjn
            have hno := Hnone.out (fun i hi hij => Hno.out i hi hij)
            have Hn : Hid (partsFrom n [] l = partsFrom n ((l.take (j + 1)).map Part.name) (l.drop (j + 1))) := by
              rw [Hstep2.out, hno]; rfl
            clear hno hj hjk
            go_wp2_with fail
            go_roundw
            case rel => exact ⟨j + 1, by omega, by go_num, Hx2, Hn⟩
            case measure => simp [intOf]; omega
    · have hend := Hinv.out.trans (parts_end n l k hlt)
      have hg := Hgood.out hend
      have i1 : ¬ (k : Int) < (l.length : Int) := by omega
      have Hg := Lib.hid hg
      clear hend hg
      by_cases h8 : l.length ≤ 8
      · have q : (l.length : Int) ≤ 8 := by omega
        go_wp2_with fail
        go_ret
        rw [Hg.out, decide_eq_true h8]
        exact ⟨rfl, Hx.out⟩
      · have q : ¬ (l.length : Int) ≤ 8 := by omega
        go_wp2_with fail
        go_ret
        rw [Hg.out, decide_eq_false h8]
        exact ⟨rfl, Hx.out⟩
end Go.Proofs.YtldnjnnhfeobdaaGreatDoor
/- Contract of the reference: methods and overrides are as said. Conditions: lengths below 2^20. -/
namespace Go.Proofs.YtldnjnnhfeobdaaGreatDoor
set_option linter.all false
set_option linter.unusedSimpArgs false
set_option linter.unusedVariables false
open Go.RowKit Go.Shelf

theorem meths_step (n : Nat) (l : List Method) (k : Nat) (hk : k < l.length) : methsFrom n ((l.take k).map Method.name) (l.drop k) =
    (isNameB l[k].name && ((strEq l[k].proc ByteArray.empty || isSymbolB l[k].proc) && (sigB n l[k] && (!memB l[k].name ((l.take k).map Method.name) && methsFrom n ((l.take (k + 1)).map Method.name) (l.drop (k + 1)))))) := by
  rw [drop_cons' l k hk, methsFrom, ← take_snoc' l k hk, List.map_append]; rfl
theorem meths_end (n : Nat) (l : List Method) (k : Nat) (hk : ¬ k < l.length) : methsFrom n ((l.take k).map Method.name) (l.drop k) = true := by
  rw [List.drop_of_length_le (by omega)]; rfl
theorem overs_step (l : List Over) (k : Nat) (hk : k < l.length) : oversFrom ((l.take k).map Over.name) (l.drop k) =
    (isNameB l[k].name && (isSymbolB l[k].proc && (!memB l[k].name ((l.take k).map Over.name) && oversFrom ((l.take (k + 1)).map Over.name) (l.drop (k + 1))))) := by
  rw [drop_cons' l k hk, oversFrom, ← take_snoc' l k hk, List.map_append]; rfl
theorem overs_end (l : List Over) (k : Nat) (hk : ¬ k < l.length) : oversFrom ((l.take k).map Over.name) (l.drop k) = true := by
  rw [List.drop_of_length_le (by omega)]; rfl
set_option maxRecDepth 100000 in
set_option maxHeartbeats 16000000 in
theorem rmethods_any (w : World) (A : Option Addr) (n cap : Nat) (t : Ty) (vp vm vo : Value) (hn : n ≤ 1048576) (hof : TyOf w t vp vm vo) (hs : TySmall t) :
    Calls Tryz.prog 120 #[.slice A n cap, tyV t vp vm vo] w (Ret w (.bool (methsB n t))) := by
  obtain ⟨A1, c1, e1⟩ := hof.parts.len
  obtain ⟨A2, c2, e2, hm⟩ := hof.methods.method
  obtain ⟨A3, c3, e3, ho⟩ := hof.overs.over
  subst e1 e2 e3
  have Hm := Lib.hid hm
  have Ho := Lib.hid ho
  have Hms := Lib.hid hs.method
  have Hos := Lib.hid hs.over
  have hml := hs.methods
  have hol := hs.overs
  have Hbad := Lib.hid (fun (h : methsFrom n [] t.methods = false) => (show methsB n t = false by unfold methsB; rw [h]; rfl))
  have Hgood := Lib.hid (fun (h : methsFrom n [] t.methods = true) => (show methsB n t = (oversFrom [] t.overs && (decide (t.methods.length ≤ 8) && decide (t.overs.length ≤ 8))) by unfold methsB; rw [h]; rfl))
  clear hof hm ho hs
  unfold tyV
  go_enter Tryz.func120, Tryz.ntmps120
  have hx0 := (Ext.refl w).alloc (.cells #[.int .u8 t.kind, .int .i64 t.low, .int .i64 t.high, .bool t.branded, .string t.brand, .string t.opaq, .int .i64 t.super, .slice A1 t.parts.length c1, .slice A2 t.methods.length c2, .slice A3 t.overs.length c3] 42)
  have hbx := heap_alloc_self w (.cells #[.int .u8 t.kind, .int .i64 t.low, .int .i64 t.high, .bool t.branded, .string t.brand, .string t.opaq, .int .i64 t.super, .slice A1 t.parts.length c1, .slice A2 t.methods.length c2, .slice A3 t.overs.length c3] 42)
  have Hc8 := Lib.hid (heap_cell hbx 8 _ rfl)
  have Hc9 := Lib.hid (heap_cell hbx 9 _ rfl)
  have Hx0 := Lib.hid hx0
  clear hx0 hbx
  go_wp2_with fail
  generalize (w.alloc (.cells #[.int .u8 t.kind, .int .i64 t.low, .int .i64 t.high, .bool t.branded, .string t.brand, .string t.opaq, .int .i64 t.super, .slice A1 t.parts.length c1, .slice A2 t.methods.length c2, .slice A3 t.overs.length c3] 42)) = w1 at *
  generalize w.heap.size = b1 at *
  go_loopw [5] (fun u wr => ∃ k : Nat, k ≤ t.methods.length ∧ u = .int .i64 k ∧ Hid (Ext w1 wr) ∧ Hid (methsFrom n [] t.methods = methsFrom n ((t.methods.take k).map Method.name) (t.methods.drop k))) (fun u _ => t.methods.length - (intOf u).toNat)
  case atStart => exact ⟨0, by omega, rfl, Lib.hid (Ext.refl _), Lib.hid rfl⟩
  case round =>
    obtain ⟨k, hk, rfl, Hx, Hinv⟩ := hrel
    have d8 := Hx.out.cell Hc8.out
    have l8 := cell_lt d8
    by_cases hlt : k < t.methods.length
    · obtain ⟨b, off, va, vr, rfl, ha, hr, m0, m1, m2, m3, m4⟩ := Hm.out k hlt
      have hmm := Hms.out _ (List.getElem_mem hlt)
      have Hstep := Lib.hid (Hinv.out.trans (meths_step n t.methods k hlt))
      have Hyes := Lib.hid (fun j (hj : j < k) => memB_yes Method.name (j := j) hj hlt)
      have Hnone := Lib.hid (memB_no Method.name hlt)
      generalize hm : t.methods[k] = m at *
      clear hm Hinv
      obtain ⟨Aa, ca, ea⟩ := ha.len
      obtain ⟨Ar, cr, er⟩ := hr.len
      subst ea er
      obtain ⟨s1, s2, s3, s4, s5⟩ := hmm
      have Hnm := Lib.hid (fun w => rname_any m.name w s1)
      have Hpr := Lib.hid (fun w => rsymbol_any m.proc w s2)
      have Hsig := Lib.hid (fun w' (hx' : Ext w w') => rsig_any w' A n cap m _ _ hn (ha.mono hx') (hr.mono hx') s3 s4 s5)
      have M0 := Lib.hid (Hx0.out.cell m0)
      replace m0 := Hx.out.cell (Hx0.out.cell m0)
      replace m1 := Hx.out.cell (Hx0.out.cell m1)
      replace m2 := Hx.out.cell (Hx0.out.cell m2)
      replace m3 := Hx.out.cell (Hx0.out.cell m3)
      replace m4 := Hx.out.cell (Hx0.out.cell m4)
      have lm := cell_lt m0
      have i0 : (0 : Int) ≤ (k : Int) := by omega
      have i1 : (k : Int) < (t.methods.length : Int) := by omega
      have hpe := Lib.hid (show strEq m.proc ByteArray.empty = m.proc.toList.isEmpty from strEq_empty m.proc)
      clear ha hr s5
      cases hname : isNameB m.name with
      | false =>
        have Hb := Lib.hid (Hbad.out (Hstep.out.trans (by rw [hname]; rfl)))
        have Hname := Lib.hid hname
        clear hname
        go_wp2_with fail
        refine (Hnm.out _).mono ?_
        rintro e w2 ⟨rfl, rfl⟩
        rw [Hname.out]
        go_wp2_with fail
        go_ret
        rw [Hb.out]
        exact ⟨rfl, Hx0.out.trans (Hx.out.alloc _)⟩
      | true =>
        have Hname := Lib.hid hname
        clear hname
        have hbox := heap_alloc_self wr (.cells #[.string m.name, .slice Aa m.args.length ca, .int .i64 m.result, .slice Ar m.raises.length cr, .string m.proc] 74)
        have Hb0 := Lib.hid (heap_cell hbox 0 _ rfl)
        have Hxb := Lib.hid (Hx.out.alloc (.cells #[.string m.name, .slice Aa m.args.length ca, .int .i64 m.result, .slice Ar m.raises.length cr, .string m.proc] 74))
        clear hbox
        have hproc : ∃ pr : Bool, Hid (pr = (strEq m.proc ByteArray.empty || isSymbolB m.proc)) ∧ ((m.proc.toList = [] ∧ pr = true) ∨ (¬ m.proc.toList = [] ∧ isSymbolB m.proc = pr)) := by
          refine ⟨_, rfl, ?_⟩
          rw [hpe.out]
          cases he : m.proc.toList with
          | nil => exact .inl ⟨rfl, rfl⟩
          | cons x l => exact .inr ⟨by simp, rfl⟩
        obtain ⟨pr, Hpr2, hpr⟩ := hproc
        cases pr with
        | false =>
          have Hb := Lib.hid (Hbad.out (Hstep.out.trans (by rw [Hname.out, ← Hpr2.out]; rfl)))
          obtain ⟨hne, hsym⟩ : ¬ m.proc.toList = [] ∧ isSymbolB m.proc = false := by simpa using hpr
          have hne2 : m.proc.toList.isEmpty = false := by cases h : m.proc.toList with | nil => exact absurd h hne | cons => rfl
          have Hsym := Lib.hid hsym
          clear hpr hsym
          go_wp2_with fail
          refine (Hnm.out _).mono ?_
          rintro e w2 ⟨rfl, rfl⟩
          rw [Hname.out]
          go_wp2_with fail
          refine (Hpr.out _).mono ?_
          rintro e w2 ⟨rfl, rfl⟩
          rw [Hsym.out]
          go_wp2_with fail
          go_ret
          rw [Hb.out]
          exact ⟨rfl, Hx0.out.trans Hxb.out⟩
        | true =>
          have Hstep2 : Hid (methsFrom n [] t.methods = (sigB n m && (!memB m.name ((t.methods.take k).map Method.name) && methsFrom n ((t.methods.take (k + 1)).map Method.name) (t.methods.drop (k + 1))))) := by
            rw [Hstep.out, Hname.out, ← Hpr2.out]; rfl
          have hpr' : (m.proc.toList = [] ∧ m.proc.toList.isEmpty = true) ∨ (¬ m.proc.toList = [] ∧ m.proc.toList.isEmpty = false ∧ Hid (isSymbolB m.proc = true)) := by
            rcases hpr with ⟨he, _⟩ | ⟨hne, hsym⟩
            · exact .inl ⟨he, by rw [he]; rfl⟩
            · exact .inr ⟨hne, by cases h : m.proc.toList with | nil => exact absurd h hne | cons => rfl, Lib.hid hsym⟩
          clear hpr Hstep Hpr2
          rcases hpr' with ⟨he, he2⟩ | ⟨he, he2, Hsym⟩
          all_goals
            go_wp2_with fail
            refine (Hnm.out _).mono ?_
            rintro e w2 ⟨rfl, rfl⟩
            rw [Hname.out]
            go_wp2_with fail
            try (refine (Hpr.out _).mono ?_; rintro e w2 ⟨rfl, rfl⟩; rw [Hsym.out]; go_wp2_with fail)
            refine (Hsig.out _ (Hx0.out.trans Hxb.out)).mono ?_
            rintro e w3 ⟨rfl, hx3⟩
            have Hx3 := Lib.hid (Hxb.out.trans hx3)
            have Hb3 := Lib.hid (hx3.cell Hb0.out)
            clear hx3
            cases hsg : sigB n m with
            | false =>
              have Hb := Lib.hid (Hbad.out (Hstep2.out.trans (by rw [hsg]; rfl)))
              clear hsg
              go_wp2_with fail
              go_ret
              rw [Hb.out]
              exact ⟨rfl, Hx0.out.trans Hx3.out⟩
            | true =>
              have Hstep3 : Hid (methsFrom n [] t.methods = (!memB m.name ((t.methods.take k).map Method.name) && methsFrom n ((t.methods.take (k + 1)).map Method.name) (t.methods.drop (k + 1)))) := by
                rw [Hstep2.out, hsg]; rfl
              clear hsg Hstep2 he he2 d8 m0 m1 m2 m3 m4 lm l8
              go_wp2_with fail
              generalize (wr.alloc (.cells #[.string m.name, .slice Aa m.args.length ca, .int .i64 m.result, .slice Ar m.raises.length cr, .string m.proc] 74)) = wb at *
              generalize wr.heap.size = bm at *
              go_loopw [7] (fun u wr => ∃ j : Nat, j ≤ k ∧ u = .int .i64 j ∧ Hid (Ext w3 wr) ∧ Hid (∀ i (hi : i < t.methods.length), i < j → ¬ t.methods[i].name.toList = m.name.toList)) (fun u _ => k - (intOf u).toNat)
              case atStart => exact ⟨0, by omega, rfl, Lib.hid (Ext.refl _), Lib.hid (fun i _ h => by omega)⟩
              case round =>
                obtain ⟨j, hj, rfl, Hx4, Hno⟩ := hrel
                have d8 := Hx4.out.cell (Hx3.out.cell Hc8.out)
                have l8 := cell_lt d8
                have m0 := Hx4.out.cell Hb3.out
                have lm := cell_lt m0
                by_cases hjk : j < k
                · have hjl : j < t.methods.length := by omega
                  obtain ⟨b', off', va', vr', e', _, _, q0, _⟩ := Hm.out j hjl
                  cases e'
                  replace q0 := Hx4.out.cell (Hx3.out.cell (Hx0.out.cell q0))
                  have lq := cell_lt q0
                  have j0 : (0 : Int) ≤ (j : Int) := by omega
                  have j1 : (j : Int) < (k : Int) := by omega
                  have j2 : (j : Int) < (t.methods.length : Int) := by omega
                  have hyes := Hyes.out j hjk
                  have hnext := fun (h : ¬ t.methods[j].name.toList = m.name.toList) i (hi : i < t.methods.length) (hij : i < j + 1) => if e : i = j then (by subst e; exact h : ¬ t.methods[i].name.toList = m.name.toList) else Hno.out i hi (by omega)
                  have Hyes1 := Lib.hid hyes
                  have Hnext := Lib.hid hnext
                  generalize t.methods[j] = q at *
                  clear hyes hnext
                  cases he : (q.name.toList == m.name.toList) with
                  | true =>
                    have he2 : q.name.toList = m.name.toList := by simpa using he
                    have Hb := Lib.hid (Hbad.out (Hstep3.out.trans (by rw [Hyes1.out he2]; rfl)))
                    go_wp2_with fail
                    go_quiet (fail)
                    go_wp2_with fail
                    go_ret
                    rw [Hb.out]
                    exact ⟨rfl, Hx0.out.trans (Hx3.out.trans (Hx4.out.drewN _))⟩
                  | false =>
                    have he2 : ¬ q.name.toList = m.name.toList := by simpa using he
                    have Hn := Lib.hid (Hnext.out he2)
                    go_wp2_with fail
                    go_quiet (fail)
                    go_wp2_with fail
                    go_roundw
                    case rel => exact ⟨j + 1, by omega, by go_num, Lib.hid (Hx4.out.drewN _), Hn⟩
                    case measure => simp [intOf]; omega
                · have hjn : j = k := by omega
                  subst hjn
                  have hno := Hnone.out (fun i hi hij => Hno.out i hi hij)
                  have Hn : Hid (methsFrom n [] t.methods = methsFrom n ((t.methods.take (j + 1)).map Method.name) (t.methods.drop (j + 1))) := by
                    rw [Hstep3.out, hno]; rfl
                  clear hno hj hjk
                  go_wp2_with fail
                  go_roundw
                  case rel => exact ⟨j + 1, by omega, by go_num, Lib.hid (Hx3.out.trans Hx4.out), Hn⟩
                  case measure => simp [intOf]; omega
    · have hend := Hinv.out.trans (meths_end n t.methods k hlt)
      have hg := Hgood.out hend
      have i1 : ¬ (k : Int) < (t.methods.length : Int) := by omega
      have Hg := Lib.hid hg
      clear hend hg Hbad Hgood Hinv
      have HbadO := Lib.hid (fun (h : oversFrom [] t.overs = false) => (Hg.out.trans (by rw [h]; rfl) : methsB n t = false))
      have HgoodO := Lib.hid (fun (h : oversFrom [] t.overs = true) => (Hg.out.trans (by rw [h]; rfl) : methsB n t = (decide (t.methods.length ≤ 8) && decide (t.overs.length ≤ 8))))
      clear Hg
      go_wp2_with fail
      obtain ⟨wa, rfl⟩ : ∃ wa : World, wa = wr := ⟨_, rfl⟩
      go_loopw [8] (fun u wr => ∃ k : Nat, k ≤ t.overs.length ∧ u = .int .i64 k ∧ Hid (Ext w1 wr) ∧ Hid (oversFrom [] t.overs = oversFrom ((t.overs.take k).map Over.name) (t.overs.drop k))) (fun u _ => t.overs.length - (intOf u).toNat)
      case atStart => exact ⟨0, by omega, rfl, Hx, Lib.hid rfl⟩
      case round =>
        clear d8 l8
        obtain ⟨k, hk, rfl, Hx, Hinv⟩ := hrel
        have d9 := Hx.out.cell Hc9.out
        have l9 := cell_lt d9
        by_cases hlt : k < t.overs.length
        · obtain ⟨b, off, rfl, p0, p1⟩ := Ho.out k hlt
          have P0 := Lib.hid (Hx0.out.cell p0)
          replace p0 := Hx.out.cell P0.out
          replace p1 := Hx.out.cell (Hx0.out.cell p1)
          have lp := cell_lt p0
          have i0 : (0 : Int) ≤ (k : Int) := by omega
          have i1 : (k : Int) < (t.overs.length : Int) := by omega
          have Hstep := Lib.hid (Hinv.out.trans (overs_step t.overs k hlt))
          have hsz := Hos.out _ (List.getElem_mem hlt)
          have Hyes := Lib.hid (fun j (hj : j < k) => memB_yes Over.name (j := j) hj hlt)
          have Hnone := Lib.hid (memB_no Over.name hlt)
          generalize hp : t.overs[k] = p at *
          have Hnm := Lib.hid (fun w => rname_any p.name w hsz.1)
          have Hpr := Lib.hid (fun w => rsymbol_any p.proc w hsz.2)
          clear hsz Hinv hp
          cases hname : isNameB p.name with
          | false =>
            have Hb := Lib.hid (HbadO.out (Hstep.out.trans (by rw [hname]; rfl)))
            have Hname := Lib.hid hname
            clear hname
            go_wp2_with fail
            refine (Hnm.out _).mono ?_
            rintro e w2 ⟨rfl, rfl⟩
            rw [Hname.out]
            go_wp2_with fail
            go_ret
            rw [Hb.out]
            exact ⟨rfl, Hx0.out.trans Hx.out⟩
          | true =>
            have Hname := Lib.hid hname
            clear hname
            cases hsym : isSymbolB p.proc with
            | false =>
              have Hb := Lib.hid (HbadO.out (Hstep.out.trans (by rw [Hname.out, hsym]; rfl)))
              have Hsym := Lib.hid hsym
              clear hsym
              go_wp2_with fail
              refine (Hnm.out _).mono ?_
              rintro e w2 ⟨rfl, rfl⟩
              rw [Hname.out]
              go_wp2_with fail
              refine (Hpr.out _).mono ?_
              rintro e w2 ⟨rfl, rfl⟩
              rw [Hsym.out]
              go_wp2_with fail
              go_ret
              rw [Hb.out]
              exact ⟨rfl, Hx0.out.trans Hx.out⟩
            | true =>
              have Hsym := Lib.hid hsym
              have Hstep2 : Hid (oversFrom [] t.overs = (!memB p.name ((t.overs.take k).map Over.name) && oversFrom ((t.overs.take (k + 1)).map Over.name) (t.overs.drop (k + 1)))) := by
                rw [Hstep.out, Hname.out, hsym]; rfl
              clear hsym Hstep
              go_wp2_with fail
              refine (Hnm.out _).mono ?_
              rintro e w2 ⟨rfl, rfl⟩
              rw [Hname.out]
              go_wp2_with fail
              refine (Hpr.out _).mono ?_
              rintro e w3 ⟨rfl, rfl⟩
              rw [Hsym.out]
              go_wp2_with fail
              clear Hnm Hpr Hname Hsym p0 p1 lp d9 l9
              go_loopw [9] (fun u wr => ∃ j : Nat, j ≤ k ∧ u = .int .i64 j ∧ Hid (Ext w1 wr) ∧ Hid (∀ i (hi : i < t.overs.length), i < j → ¬ t.overs[i].name.toList = p.name.toList)) (fun u _ => k - (intOf u).toNat)
              case atStart => exact ⟨0, by omega, rfl, Hx, Lib.hid (fun i _ h => by omega)⟩
              case round =>
                obtain ⟨j, hj, rfl, Hx2, Hno⟩ := hrel
                have d9 := Hx2.out.cell Hc9.out
                have l9 := cell_lt d9
                have p0 := Hx2.out.cell P0.out
                have lp := cell_lt p0
                by_cases hjk : j < k
                · have hjl : j < t.overs.length := by omega
                  obtain ⟨b', off', e', q0, q1⟩ := Ho.out j hjl
                  cases e'
                  replace q0 := Hx2.out.cell (Hx0.out.cell q0)
                  have j0 : (0 : Int) ≤ (j : Int) := by omega
                  have j1 : (j : Int) < (k : Int) := by omega
                  have j2 : (j : Int) < (t.overs.length : Int) := by omega
                  have hyes := Hyes.out j hjk
                  have hnext := fun (h : ¬ t.overs[j].name.toList = p.name.toList) i (hi : i < t.overs.length) (hij : i < j + 1) => if e : i = j then (by subst e; exact h : ¬ t.overs[i].name.toList = p.name.toList) else Hno.out i hi (by omega)
                  have Hyes1 := Lib.hid hyes
                  have Hnext := Lib.hid hnext
                  generalize t.overs[j] = q at *
                  clear q1 hyes hnext
                  cases he : (q.name.toList == p.name.toList) with
                  | true =>
                    have he2 : q.name.toList = p.name.toList := by simpa using he
                    have Hb := Lib.hid (HbadO.out (Hstep2.out.trans (by rw [Hyes1.out he2]; rfl)))
                    go_wp2_with fail
                    go_quiet (fail)
                    go_wp2_with fail
                    go_ret
                    rw [Hb.out]
                    exact ⟨rfl, Hx0.out.trans (Hx2.out.drewN _)⟩
                  | false =>
                    have he2 : ¬ q.name.toList = p.name.toList := by simpa using he
                    have Hn := Lib.hid (Hnext.out he2)
                    go_wp2_with fail
                    go_quiet (fail)
                    go_wp2_with fail
                    go_roundw
                    case rel => exact ⟨j + 1, by omega, by go_num, Lib.hid (Hx2.out.drewN _), Hn⟩
                    case measure => simp [intOf]; omega
                · have hjn : j = k := by omega
                  subst hjn
                  have hno := Hnone.out (fun i hi hij => Hno.out i hi hij)
                  have Hn : Hid (oversFrom [] t.overs = oversFrom ((t.overs.take (j + 1)).map Over.name) (t.overs.drop (j + 1))) := by
                    rw [Hstep2.out, hno]; rfl
                  clear hno hj hjk
                  go_wp2_with fail
                  go_roundw
                  case rel => exact ⟨j + 1, by omega, by go_num, Hx2, Hn⟩
                  case measure => simp [intOf]; omega
        · have hend := Hinv.out.trans (overs_end t.overs k hlt)
          have Hg := Lib.hid (HgoodO.out hend)
          have d8 := Hx.out.cell Hc8.out
          have l8 := cell_lt d8
          have i1 : ¬ (k : Int) < (t.overs.length : Int) := by omega
          clear hend
          by_cases h8 : t.methods.length ≤ 8
          · have q1 : (t.methods.length : Int) ≤ 8 := by omega
            by_cases h9 : t.overs.length ≤ 8
            · have q2 : (t.overs.length : Int) ≤ 8 := by omega
              have Hv := Lib.hid (Hg.out.trans (by rw [decide_eq_true h8, decide_eq_true h9]; rfl : _ = true))
              go_wp2_with fail
              go_ret
              rw [Hv.out]
              exact ⟨rfl, Hx0.out.trans Hx.out⟩
            · have q2 : ¬ (t.overs.length : Int) ≤ 8 := by omega
              have Hv := Lib.hid (Hg.out.trans (by rw [decide_eq_true h8, decide_eq_false h9]; rfl : _ = false))
              go_wp2_with fail
              go_ret
              rw [Hv.out]
              exact ⟨rfl, Hx0.out.trans Hx.out⟩
          · have q1 : ¬ (t.methods.length : Int) ≤ 8 := by omega
            have Hv := Lib.hid (Hg.out.trans (by rw [decide_eq_false h8]; rfl : _ = false))
            go_wp2_with fail
            go_ret
            rw [Hv.out]
            exact ⟨rfl, Hx0.out.trans Hx.out⟩
end Go.Proofs.YtldnjnnhfeobdaaGreatDoor
