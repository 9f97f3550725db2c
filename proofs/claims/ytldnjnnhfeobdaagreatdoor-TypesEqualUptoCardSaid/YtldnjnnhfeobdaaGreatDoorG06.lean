/- Parts of the proof, joined: Plain theory: what is reached, each class once, level by level; two graphs that run beside each other reach the same. No program. No condition; Plain theory: a text of words and numerals is read in one way. No program. No condition; Plain theory: the text of a type: graphs that run beside each other have the same texts. No program. No condition; Plain theory: types whose texts are equal are the same. No program. No condition; Plain law: a graph that stands beside a well-formed one, its types being turned ones, is well-formed. No condition; Plain law: types in another order, a type put behind all others again, merged types: texts and what is the same are what they were. No condition; Contracts of the reference: names, symbols, brands. Conditions: lengths below 2^20; Contracts of the reference: equal lists of strings, signatures, parts. Conditions: lengths below 2^20. -/
import Derived.Lib.ItoaMem
import Derived.Lib.Join
import Derived.Test.YtldnjnnhfeobdaaGreatDoorG02
import Derived.Test.YtldnjnnhfeobdaaGreatDoorG01
import Derived.Test.YtldnjnnhfeobdaaGreatDoorG05
import Derived.Test.YtldnjnnhfeobdaaGreatDoorG04
set_option linter.all false
set_option linter.unusedSimpArgs false
set_option linter.unusedVariables false
namespace Go.Proofs.YtldnjnnhfeobdaaGreatDoor
def addN (cls : Nat → Nat) : List Nat → List Nat → List Nat
 | out, [] => out
 | out, r :: rs => if cls r ∈ out.map cls then addN cls out rs else addN cls (out ++ [r]) rs
def reachN (cls : Nat → Nat) (rf : Nat → List Nat) : Nat → Nat → List Nat → List Nat
 | 0, _, out => out
 | f + 1, k, out => match out[k]? with
  | some i => reachN cls rf f (k + 1) (addN cls out (rf i))
  | none => out
/-- the place of a class -/
def posN (cls : Nat → Nat) (c : Nat) : List Nat → Nat
 | [] => 0
 | i :: l => if cls i = c then 0 else posN cls c l + 1
section
variable {cls : Nat → Nat} {rf : Nat → List Nat}
theorem addN_append (out xs ys : List Nat) : addN cls out (xs ++ ys) = addN cls (addN cls out xs) ys := by
 induction xs generalizing out with
 | nil => rfl
 | cons x xs ih =>
  simp only [List.cons_append, addN]
  split
  ·exact ih out
  ·exact ih _
theorem addN_one (out : List Nat) (r : Nat) : addN cls out [r] = if cls r ∈ out.map cls then out else out ++ [r] := rfl
theorem addN_spec : ∀ rs out, ∃ new, addN cls out rs = out ++ new ∧ (∀ r ∈ new, r ∈ rs) ∧ (∀ r ∈ rs, cls r ∈ (out ++ new).map cls) ∧ ((out.map cls).Nodup → ((out ++ new).map cls).Nodup) := by
 intro rs
 induction rs with
 | nil => intro out; exact ⟨[], by simp [addN], by simp, by simp, by simp⟩
 | cons r rs ih =>
  intro out
  unfold addN
  by_cases h : cls r ∈ out.map cls
  ·rw [if_pos h]
   obtain ⟨new, h1, h2, h3, h4⟩ := ih out
   refine ⟨new, h1, fun q hq => by simp [h2 q hq], fun q hq => ?_, h4⟩
   rcases List.mem_cons.1 hq with rfl | hq
   ·rw [List.map_append, List.mem_append]; exact .inl h
   ·exact h3 q hq
  ·rw [if_neg h]
   obtain ⟨new, h1, h2, h3, h4⟩ := ih (out ++ [r])
   refine ⟨r :: new, by rw [h1]; simp, fun q hq => ?_, fun q hq => ?_, fun hn => ?_⟩
   ·rcases List.mem_cons.1 hq with rfl | hq
    ·simp
    ·simp [h2 q hq]
   ·rcases List.mem_cons.1 hq with rfl | hq
    ·simp
    ·have := h3 q hq; simpa using this
   ·have := h4 (by
     rw [List.map_append, List.nodup_append]
     exact ⟨hn, by simp, by rintro a ha b hb rfl; simp at hb; subst hb; exact h ha⟩)
    simpa using this
/-- what holds where the search stands at k -/
structure RInv (n : Nat) (cls : Nat → Nat) (rf : Nat → List Nat) (a k : Nat) (out : List Nat) : Prop where
 start : out[0]? = some a
 rng : ∀ i ∈ out, i < n
 nodup : (out.map cls).Nodup
 le : k ≤ out.length
 past : ∀ j i, j < k → out[j]? = some i → ∀ r ∈ rf i, cls r ∈ out.map cls
theorem RInv.len {n a k : Nat} {out : List Nat} (hc : ∀ i, i < n → cls i < n) (I : RInv n cls rf a k out) : out.length ≤ n := by
 have := nodup_length_le (s := out.map cls) (l := List.range n) I.nodup fun x hx => by
  obtain ⟨i, hi, rfl⟩ := List.mem_map.1 hx
  exact List.mem_range.2 (hc i (I.rng i hi))
 simpa using this
theorem RInv.init {n a : Nat} (ha : a < n) : RInv n cls rf a 0 [a] := ⟨rfl, by simp [ha], by simp, by simp, fun j i h => by omega⟩
theorem RInv.step {n a k i : Nat} {out : List Nat} (hr : ∀ i, i < n → ∀ r ∈ rf i, r < n) (I : RInv n cls rf a k out) (hk : out[k]? = some i) : RInv n cls rf a (k + 1) (addN cls out (rf i)) := by
 obtain ⟨new, h1, h2, h3, h4⟩ := addN_spec (cls := cls) (rf i) out
 rw [h1]
 have hlt := (List.getElem?_eq_some_iff.1 hk).1
 have hi : i < n := I.rng i (List.mem_of_getElem? hk)
 refine ⟨?_, fun j hj => ?_, h4 I.nodup, by rw [List.length_append]; omega, fun j q hj hq r hr' => ?_⟩
 ·rw [List.getElem?_append_left (by omega)]; exact I.start
 ·rcases List.mem_append.1 hj with hj | hj
  ·exact I.rng j hj
  ·exact hr i hi j (h2 j hj)
 ·rw [List.getElem?_append_left (by omega)] at hq
  by_cases e : j = k
  ·subst e
   rw [hk] at hq
   injection hq with hq
   subst hq
   exact h3 r hr'
  ·have := I.past j q (by omega) hq r hr'
   rw [List.map_append, List.mem_append]; exact .inl this
theorem reachN_inv {n a : Nat} (hc : ∀ i, i < n → cls i < n) (hr : ∀ i, i < n → ∀ r ∈ rf i, r < n) : ∀ f k out, RInv n cls rf a k out → n < f + k → RInv n cls rf a (reachN cls rf f k out).length (reachN cls rf f k out) := by
 intro f
 induction f with
 | zero =>
  intro k out I h
  have := I.len hc
  have := I.le
  omega
 | succ f ih =>
  intro k out I h
  unfold reachN
  cases hk : out[k]? with
  | none =>
   have h1 : out.length ≤ k := by simpa using hk
   have h2 := I.le
   have : k = out.length := by omega
   subst this
   exact I
  | some i => exact ih (k + 1) _ (I.step hr hk) (by omega)
theorem reachN_done {f k : Nat} {out : List Nat} (h : out.length ≤ k) : reachN cls rf f k out = out := by
 cases f with
 | zero => rfl
 | succ f =>
  unfold reachN
  have : out[k]? = none := by simpa using h
  rw [this]
theorem reachN_go {f k i : Nat} {out : List Nat} (h : out[k]? = some i) : reachN cls rf (f + 1) k out = reachN cls rf f (k + 1) (addN cls out (rf i)) := by
 rw [reachN, h]
theorem posN_snoc {c x : Nat} : ∀ {l : List Nat}, posN cls c (l ++ [x]) = if c ∈ l.map cls then posN cls c l else l.length + (if cls x = c then 0 else 1)
 | [] => by simp [posN]
 | y :: l => by
  simp only [List.cons_append, posN]
  by_cases e : cls y = c
  ·simp [e]
  ·have ih := posN_snoc (c := c) (x := x) (l := l)
   rw [if_neg e, if_neg e, ih]
   have : (c ∈ (y :: l).map cls) ↔ c ∈ l.map cls := by
    rw [List.map_cons, List.mem_cons]
    exact ⟨fun h => h.elim (fun h => absurd h.symm e) id, .inr⟩
   by_cases h : c ∈ l.map cls
   ·rw [if_pos h, if_pos (this.2 h)]
   ·rw [if_neg h, if_neg (fun h' => h (this.1 h'))]
    simp only [List.length_cons]; omega
end
/-! ### Two graphs beside each other -/
section
variable {R : Nat → Nat → Prop} {c1 c2 : Nat → Nat} {r1 r2 : Nat → List Nat}
theorem All2.length {xs ys : List Nat} (h : All2 R xs ys) : xs.length = ys.length := by
 induction h with
 | nil => rfl
 | cons h t ih => simp [ih]
theorem All2.get {xs ys : List Nat} (h : All2 R xs ys) : ∀ k : Nat, match xs[k]?, ys[k]? with | some x, some y => R x y | none, none => True | _, _ => False := by
 induction h with
 | nil => intro k; simp
 | cons h t ih =>
  intro k
  cases k with
  | zero => simpa using h
  | succ k => simpa using ih k
theorem All2.pos {xs ys : List Nat} (h : All2 R xs ys) (hc : ∀ i j i' j', R i j → R i' j' → (c1 i = c1 i' ↔ c2 j = c2 j')) {i j : Nat} (hij : R i j) : posN c1 (c1 i) xs = posN c2 (c2 j) ys := by
 induction h with
 | nil => rfl
 | @cons x y xs ys h t ih =>
  unfold posN
  have := hc _ _ _ _ h hij
  by_cases e : c1 x = c1 i
  ·rw [if_pos e, if_pos (this.1 e)]
  ·rw [if_neg e, if_neg (fun e' => e (this.2 e')), ih]
end
end Go.Proofs.YtldnjnnhfeobdaaGreatDoor
/- Plain theory: a text of words and numerals is read in one way. No program. No condition. -/
namespace Go.Proofs.YtldnjnnhfeobdaaGreatDoor
def nameC (c : UInt8) : Bool := !notNameB (c.toNat : Int)
def symC (c : UInt8) : Bool := nameC c || c == 46
def brandC (c : UInt8) : Bool := !(c == 34)
/-- r goes on with a sign that is no P -/
def Ends (P : UInt8 → Bool) (r : List UInt8) : Prop := ∃ d s, r = d :: s ∧ P d = false
/-- r goes on with a blank, or with the end of the line -/
def Brk (r : List UInt8) : Prop := ∃ d s, r = d :: s ∧ (d = 32 ∨ d = 10)
theorem Brk.ends {r : List UInt8} (h : Brk r) {P : UInt8 → Bool} (h1 : P 32 = false) (h2 : P 10 = false) : Ends P r := by
 obtain ⟨d, s, e, rfl | rfl⟩ := h
 ·exact ⟨32, s, e, h1⟩
 ·exact ⟨10, s, e, h2⟩
theorem joinTail_more (sep x : List UInt8) (r : List (List UInt8)) : Lib.joinTail sep (x :: r) = sep ++ (x ++ Lib.joinTail sep r) := by simp [Lib.joinTail]
/-- r goes on with a sign that is no P and no comma -/
def Ends2 (P : UInt8 → Bool) (r : List UInt8) : Prop := ∃ d s, r = d :: s ∧ P d = false ∧ d ≠ 44
theorem Ends2.one {P : UInt8 → Bool} {r : List UInt8} (h : Ends2 P r) : Ends P r := by
 obtain ⟨d, s, e, h1, _⟩ := h; exact ⟨d, s, e, h1⟩
/-! ### the entries of a line -/
def AllC (P : UInt8 → Bool) (l : List UInt8) : Prop := ∀ c ∈ l, P c = true
end Go.Proofs.YtldnjnnhfeobdaaGreatDoor
/- Plain theory: the text of a type: graphs that run beside each other have the same texts. No program. No condition. -/
namespace Go.Proofs.YtldnjnnhfeobdaaGreatDoor
def clsG (g : Graph) (i : Nat) : Nat := (classesG g).getD i 0
def reachG (g : Graph) (a : Nat) : List Nat := reachN (clsG g) (refsN g) (g.length + 1) 0 [a]
def numB (cls : Nat → Nat) (out : List Nat) (r : Int) : ByteArray := ⟨(Lib.itoa (posN cls (cls r.toNat) out : Nat)).toArray⟩
def textG (g : Graph) (a : Nat) : List UInt8 := (reachG g a).flatMap fun i => lineTx (numB (clsG g) (reachG g a)) (getT g i)
theorem clsG_lt {g : Graph} (h : WF g) {i : Nat} (hi : i < g.length) : clsG g i < g.length := by
 have := (classesN_facts h.abs).1.le i hi
 show (classesN (agN g) (refsN g) g.length).getD i 0 < g.length
 omega
theorem clsG_idem {g : Graph} (h : WF g) {i : Nat} (hi : i < g.length) : clsG g (clsG g i) = clsG g i := (classesN_facts h.abs).1.idem i hi
theorem reachG_inv {g : Graph} (h : WF g) {a : Nat} (ha : a < g.length) : RInv g.length (clsG g) (refsN g) a (reachG g a).length (reachG g a) :=
 reachN_inv (fun i hi => clsG_lt h hi) h.abs.rng _ _ _ (RInv.init ha) (by omega)
/-! ### a line depends on what agrees, and on the numbers of the references -/
theorem eqF_strEq : ∀ {xs ys : List ByteArray}, eqF strEq xs ys = true → xs = ys
 | [], [], _ => rfl
 | [], y :: ys, h => by simp [eqF] at h
 | x :: xs, [], h => by simp [eqF] at h
 | x :: xs, y :: ys, h => by
  simp only [eqF, Bool.and_eq_true] at h
  rw [strEq_iff.1 h.1, eqF_strEq h.2]
theorem eqF_over : ∀ {xs ys : List Over}, eqF overEq xs ys = true → xs.flatMap overTx = ys.flatMap overTx
 | [], [], _ => rfl
 | [], y :: ys, h => by simp [eqF] at h
 | x :: xs, [], h => by simp [eqF] at h
 | x :: xs, y :: ys, h => by
  simp only [eqF, Bool.and_eq_true, overEq_eq] at h
  rw [List.flatMap_cons, List.flatMap_cons, eqF_over h.2]
  unfold overTx
  rw [strEq_iff.1 h.1.1, strEq_iff.1 h.1.2]
section
variable {num num' : Int → ByteArray}
theorem eqF_part : ∀ {xs ys : List Part}, eqF partEq xs ys = true → (xs.map Part.type).map num = (ys.map Part.type).map num' → xs.flatMap (partTx num) = ys.flatMap (partTx num')
 | [], [], _, _ => rfl
 | [], y :: ys, h, _ => by simp [eqF] at h
 | x :: xs, [], h, _ => by simp [eqF] at h
 | x :: xs, y :: ys, h, h2 => by
  simp only [eqF, Bool.and_eq_true, partEq_eq] at h
  simp only [List.map_cons, List.cons.injEq] at h2
  rw [List.flatMap_cons, List.flatMap_cons, eqF_part h.2 h2.2]
  unfold partTx
  rw [strEq_iff.1 h.1, h2.1]
theorem meth_congr {a b : Method} (h : sameMethodB a b = true) (h2 : (refsM a).map num = (refsM b).map num') : methodTx num a = methodTx num' b := by
 obtain ⟨e1, e2, e3, e4, e5⟩ := sameMethodB_iff.1 h
 have e6 : (a.result < 0) ↔ (b.result < 0) := by simpa using e4
 unfold refsM at h2
 rw [List.map_append, List.map_append] at h2
 obtain ⟨h3, h4⟩ := List.append_inj h2 (by rw [List.length_map, List.length_map]; exact e3)
 have h5 : resultTx num a.result = resultTx num' b.result := by
  unfold resultTx
  by_cases h6 : a.result < 0
  ·rw [if_pos h6, if_pos (e6.1 h6)]
  ·have h7 : ¬ b.result < 0 := fun h => h6 (e6.2 h)
   rw [if_neg h6, if_neg h7]
   rw [if_pos (by omega), if_pos (by omega)] at h4
   simp at h4
   rw [h4]
 unfold methodTx
 rw [e1, e2, h3, h5, eqF_strEq e5]
theorem eqF_meth : ∀ {xs ys : List Method}, eqF sameMethodB xs ys = true → (xs.flatMap refsM).map num = (ys.flatMap refsM).map num' → xs.flatMap (methodTx num) = ys.flatMap (methodTx num')
 | [], [], _, _ => rfl
 | [], y :: ys, h, _ => by simp [eqF] at h
 | x :: xs, [], h, _ => by simp [eqF] at h
 | x :: xs, y :: ys, h, h2 => by
  simp only [eqF, Bool.and_eq_true] at h
  rw [List.flatMap_cons, List.flatMap_cons, List.map_append, List.map_append] at h2
  obtain ⟨h3, h4⟩ := List.append_inj h2 (by rw [List.length_map, List.length_map]; exact refsM_length h.1)
  rw [List.flatMap_cons, List.flatMap_cons, eqF_meth h.2 h4, meth_congr h.1 h3]
theorem line_congr {s t : Ty} (h : agreeT s t = true) (h2 : (refsL s).map num = (refsL t).map num') : lineTx num s = lineTx num' t := by
 obtain ⟨h3, h4, h5, h6⟩ := agreeT_iff.1 h
 obtain ⟨p1, p2, p3, p4, p5, p6⟩ := plainEqB_iff.1 h3
 unfold refsL at h2
 rw [List.map_append, List.map_append, List.map_append, List.map_append] at h2
 have e1 : (refsS s).length = (refsS t).length := by unfold refsS; rw [p1]; cases hasSuperB t.kind <;> rfl
 obtain ⟨q1, q2⟩ := List.append_inj h2 (by rw [List.length_map, List.length_map]; exact e1)
 obtain ⟨q3, q4⟩ := List.append_inj q2 (by simp only [List.length_map]; exact eqF_length h4)
 have h7 : superTx num s = superTx num' t := by
  unfold superTx
  unfold refsS at q1
  rw [p1] at q1 ⊢
  cases hs : hasSuperB t.kind with
  | false => rfl
  | true => rw [hs] at q1; simp at q1; simp [q1]
 have h8 : midTx s = midTx t := by unfold midTx; rw [p1, p2, p3, p4, p5, p6]
 unfold lineTx
 rw [p1, h7, h8, eqF_part h4 q3, eqF_meth h5 q4, eqF_over h6]
end
/-! ### graphs beside each other -/
theorem All2.mono {R S : Nat → Nat → Prop} {xs ys : List Nat} (h : All2 R xs ys) (hs : ∀ i j, R i j → S i j) : All2 S xs ys := by
 induction h with
 | nil => exact .nil
 | cons h t ih => exact .cons (hs _ _ h) ih
end Go.Proofs.YtldnjnnhfeobdaaGreatDoor
/- Plain theory: types whose texts are equal are the same. No program. No condition. -/
namespace Go.Proofs.YtldnjnnhfeobdaaGreatDoor
/-! ### what signs names, symbols and brands have -/
def Sg (P : UInt8 → Bool) (s : ByteArray) : Prop := AllC P s.data.toList
theorem name_sg {s : ByteArray} (h : isNameB s = true) : Sg nameC s ∧ s.data.toList ≠ [] := by
 simp only [isNameB, isNameL, Bool.and_eq_true, inB, decide_eq_true_eq, Bool.not_eq_true', List.any_eq_false] at h
 obtain ⟨⟨h1, _⟩, _, h2⟩ := h
 refine ⟨fun c hc => ?_, fun e => ?_⟩
 ·have := h2 (c.toNat : Int) (List.mem_map.2 ⟨c, hc, rfl⟩)
  unfold nameC
  simpa using this
 ·unfold byts at h1
  rw [e] at h1
  simp at h1
theorem nameC_symC {c : UInt8} (h : nameC c = true) : symC c = true := by unfold symC; rw [h]; rfl
theorem index_dot : ∀ s : List UInt8, (Lib.index s [46] = -1 ∧ (46 : UInt8) ∉ s) ∨ ∃ a b, s = a ++ 46 :: b ∧ (46 : UInt8) ∉ a ∧ Lib.index s [46] = (a.length : Int)
 | [] => .inl ⟨rfl, by simp⟩
 | c :: l => by
  by_cases e : c = 46
  ·subst e
   exact .inr ⟨[], l, rfl, by simp, rfl⟩
  ·have h0 : ([46] : List UInt8).isPrefixOf (c :: l) = false := by
    simp [List.isPrefixOf]; exact fun h => e h.symm
   rcases index_dot l with ⟨h1, h2⟩ | ⟨a, b, h1, h2, h3⟩
   ·refine .inl ⟨?_, by simp [h2, Ne.symm e]⟩
    rw [Lib.index, h0, h1]; rfl
   ·refine .inr ⟨c :: a, b, by rw [h1]; rfl, by simp [h2, Ne.symm e], ?_⟩
    rw [Lib.index, h0, h3]
    have : ((a.length : Int) == -1) = false := by rw [beq_eq_false_iff_ne]; omega
    simp [this]
theorem symbol_parts {s : ByteArray} (h : isSymbolB s = true) : ∃ a b, s.data.toList = a ++ 46 :: b ∧ isNameB ⟨a.toArray⟩ = true ∧ isNameB ⟨b.toArray⟩ = true := by
 unfold isSymbolB cutB at h
 simp only [Bool.and_eq_true] at h
 obtain ⟨h1, h2, h3⟩ := h
 rcases index_dot s.data.toList with ⟨h4, _⟩ | ⟨a, b, h4, h5, h6⟩
 ·unfold Lib.cut at h1
  rw [h4, if_neg (by decide)] at h1
  cases h1
 ·have e : Lib.cut s.data.toList [46] = (a, b, true) := by
   unfold Lib.cut
   rw [h6, if_pos (by omega), h4]
   simp
  rw [e] at h2 h3
  exact ⟨a, b, h4, h2, h3⟩
theorem symbol_sg {s : ByteArray} (h : isSymbolB s = true) : Sg symC s ∧ s.data.toList ≠ [] := by
 obtain ⟨a, b, h1, h2, h3⟩ := symbol_parts h
 refine ⟨fun c hc => ?_, by rw [h1]; simp⟩
 rw [h1] at hc
 rcases List.mem_append.1 hc with hc | hc
 ·exact nameC_symC ((name_sg h2).1 c hc)
 ·rcases List.mem_cons.1 hc with rfl | hc
  ·rfl
  ·exact nameC_symC ((name_sg h3).1 c hc)
theorem brand_sg {s : ByteArray} (h : isBrandB s = true) : Sg brandC s := by
 simp only [isBrandB, Bool.and_eq_true, Bool.not_eq_true', List.any_eq_false, decide_eq_true_eq] at h
 intro c hc
 have := h.2 (c.toNat : Int) (List.mem_map.2 ⟨c, hc, rfl⟩)
 unfold brandC
 simp only [Bool.not_eq_true', beq_eq_false_iff_ne]
 rintro rfl
 exact this (by simp)
theorem toList_nil {s : ByteArray} (h : s.toList = []) : s = ByteArray.empty := ba_toList_inj (by rw [h, toList_empty])
theorem strEq_nil {s : ByteArray} (h : strEq s ByteArray.empty = true) : s = ByteArray.empty := strEq_iff.1 h
theorem sg_empty (P : UInt8 → Bool) : Sg P ByteArray.empty := by intro c hc; simp at hc
/-- what the text of a right type leans on -/
structure Txt (t : Ty) : Prop where
 part : ∀ p ∈ t.parts, Sg nameC p.name
 meth : ∀ m ∈ t.methods, Sg nameC m.name ∧ (∀ r ∈ m.raises, Sg symC r ∧ r.data.toList ≠ []) ∧ Sg symC m.proc
 over : ∀ o ∈ t.overs, Sg nameC o.name ∧ Sg symC o.proc
 brand : Sg brandC t.brand
 bare : t.branded = false → t.brand = ByteArray.empty
 low : t.kind ≠ 3 → t.low = 0 ∧ t.high = 0
 noBrand : ¬ (t.kind = 9 ∨ t.kind = 11 ∨ t.kind = 10 ∨ t.kind = 12) → t.branded = false
 opaq : Sg symC t.opaq
 noOpaq : t.kind ≠ 13 → t.opaq = ByteArray.empty
 kind : 1 ≤ t.kind ∧ t.kind < 14
theorem zeroB_iff {t : Ty} (h : zeroB t = true) : t.low = 0 ∧ t.high = 0 ∧ t.branded = false ∧ t.brand = ByteArray.empty ∧ t.opaq = ByteArray.empty ∧ t.super = 0 := by
 simp only [zeroB, Bool.and_eq_true, decide_eq_true_eq, Bool.not_eq_true', List.isEmpty_iff] at h
 obtain ⟨⟨h1, h2, h3, h4, h5, h6⟩, _⟩ := h
 exact ⟨h1, h2, h3, toList_nil h4, toList_nil h5, h6⟩
theorem distinct_names : ∀ {l seen : List ByteArray}, distinctFrom seen l = true → ∀ s ∈ l, isNameB s = true
 | [], _, _ => by simp
 | n :: r, seen, h => by
  unfold distinctFrom at h
  split at h
  ·cases h
  ·simp only [Bool.and_eq_true] at h
   intro s hs
   rcases List.mem_cons.1 hs with rfl | hs
   ·exact h.1
   ·exact distinct_names h.2 s hs
theorem different_names {l : List ByteArray} {k : Int} (h : differentB l k = true) : ∀ s ∈ l, isNameB s = true := by
 simp only [differentB, Bool.and_eq_true] at h
 exact distinct_names h.1
theorem branded_txt {n : Nat} {t : Ty} (h : brandedB n t = true) : Sg brandC t.brand ∧ (t.branded = false → t.brand = ByteArray.empty) := by
 simp only [brandedB, Bool.and_eq_true, Bool.or_eq_true] at h
 refine ⟨brand_sg h.1, fun e => ?_⟩
 rcases h.2.1 with h2 | h2
 ·rw [e] at h2; cases h2
 ·exact strEq_nil h2
theorem raises_sg : ∀ {l : List ByteArray} {p : Option ByteArray}, raisesFrom p l = true → ∀ r ∈ l, Sg symC r ∧ r.data.toList ≠ []
 | [], _, _ => by simp
 | x :: l, p, h => by
  simp only [raisesFrom, Bool.and_eq_true] at h
  intro r hr
  rcases List.mem_cons.1 hr with rfl | hr
  ·have h1 := h.1
   simp only [raiseOk, Bool.and_eq_true, Bool.or_eq_true] at h1
   rcases h1.1 with h2 | h2
   ·have e := strEq_iff.1 h2
    subst e
    exact ⟨by unfold Sg AllC alerted; decide, by decide⟩
   ·exact symbol_sg h2
  ·exact raises_sg h.2 r hr
theorem right_txt {g : Graph} {t : Ty} (h : rightB g t = true) : Txt t := by
 have hk := (right_fine h).kind
 unfold rightB at h
 split at h
 ·rename_i k3
  simp only [Bool.and_eq_true] at h
  obtain ⟨z1, z2, z3⟩ := zeroB_lens h.2
  obtain ⟨_, _, z4, z5, z6, _⟩ := zeroB_iff h.2
  have z1 : t.parts = [] := z1
  have z2 : t.methods = [] := z2
  have z3 : t.overs = [] := z3
  have z4 : t.branded = false := z4
  have z5 : t.brand = ByteArray.empty := z5
  have z6 : t.opaq = ByteArray.empty := z6
  exact ⟨by simp [z1], by simp [z2], by simp [z3], by rw [z5]; exact sg_empty _, fun _ => z5, fun h => absurd k3 h, fun _ => z4, by rw [z6]; exact sg_empty _, fun _ => z6, hk⟩
 split at h
 ·rename_i k9
  simp only [Bool.and_eq_true] at h
  obtain ⟨h1, h2⟩ := h
  obtain ⟨_, z2, z3⟩ := zeroB_lens h2
  obtain ⟨z4, z5, _, _, z6, _⟩ := zeroB_iff h2
  have z2 : t.methods = [] := z2
  have z3 : t.overs = [] := z3
  have z4 : t.low = 0 := z4
  have z5 : t.high = 0 := z5
  have z6 : t.opaq = ByteArray.empty := z6
  simp only [heldB, Bool.and_eq_true, decide_eq_true_eq] at h1
  obtain ⟨b1, b2⟩ := branded_txt h1.1
  refine ⟨?_, by simp [z2], by simp [z3], b1, b2, fun _ => ⟨z4, z5⟩, fun h => absurd (by omega) h, by rw [z6]; exact sg_empty _, fun _ => z6, hk⟩
  obtain ⟨h3, h4⟩ := h1.2
  intro p hp
  match hl : t.parts with
  | [] => rw [hl] at hp; simp at hp
  | [q] =>
   rw [hl] at hp h4
   simp only [List.mem_singleton] at hp
   subst hp
   have := strEq_nil h4
   simp at this
   rw [this]; exact sg_empty _
  | a :: b :: l => rw [hl] at h3; simp at h3
 split at h
 ·rename_i k10
  simp only [Bool.and_eq_true] at h
  obtain ⟨h1, h2⟩ := h
  obtain ⟨_, z2, z3⟩ := zeroB_lens h2
  obtain ⟨z4, z5, _, _, z6, _⟩ := zeroB_iff h2
  have z2 : t.methods = [] := z2
  have z3 : t.overs = [] := z3
  have z4 : t.low = 0 := z4
  have z5 : t.high = 0 := z5
  have z6 : t.opaq = ByteArray.empty := z6
  simp only [recordedB, Bool.and_eq_true, decide_eq_true_eq] at h1
  obtain ⟨b1, b2⟩ := branded_txt h1.1
  exact ⟨fun p hp => (name_sg (different_names h1.2.2 _ (List.mem_map_of_mem hp))).1, by simp [z2], by simp [z3], b1, b2, fun _ => ⟨z4, z5⟩, fun h => absurd (by omega) h, by rw [z6]; exact sg_empty _, fun _ => z6, hk⟩
 split at h
 ·rename_i k12
  simp only [Bool.and_eq_true] at h
  obtain ⟨h1, h2⟩ := h
  obtain ⟨z4, z5, _, _, z6, _⟩ := zeroB_iff h2
  have z4 : t.low = 0 := z4
  have z5 : t.high = 0 := z5
  have z6 : t.opaq = ByteArray.empty := z6
  simp only [objectsB, Bool.and_eq_true] at h1
  obtain ⟨d1, d2, d3⟩ := h1
  obtain ⟨b1, b2⟩ := branded_txt d1
  simp only [objectB, Bool.and_eq_true, Bool.not_eq_true', Bool.or_eq_false_iff, List.any_eq_false] at d3
  obtain ⟨⟨c1, c2⟩, c3, c4, c5⟩ := d3
  refine ⟨fun p hp => (name_sg (different_names d2 _ (List.mem_map_of_mem hp))).1, fun m hm => ?_, fun o ho => ?_, b1, b2, fun _ => ⟨z4, z5⟩, fun h => absurd (by omega) h, by rw [z6]; exact sg_empty _, fun _ => z6, hk⟩
  ·have h5 := c1 m hm
   simp only [badMethod, Bool.or_eq_true, Bool.not_eq_true', not_or, Bool.not_eq_false, Bool.and_eq_true, not_and] at h5
   obtain ⟨h6, h7⟩ := h5
   simp only [sigB, Bool.and_eq_true] at h6
   refine ⟨(name_sg (different_names c3 _ (List.mem_map_of_mem hm))).1, raises_sg h6.2, ?_⟩
   cases hp : strEq m.proc ByteArray.empty with
   | true => rw [strEq_nil hp]; exact sg_empty _
   | false => exact (symbol_sg (h7 hp)).1
  ·have h5 := c2 o ho
   simp only [badOver, Bool.not_eq_true', Bool.not_eq_false] at h5
   exact ⟨(name_sg (different_names c4 _ (List.mem_map_of_mem ho))).1, (symbol_sg (by simpa using h5)).1⟩
 split at h
 ·rename_i k13
  simp only [Bool.and_eq_true] at h
  obtain ⟨h1, h2⟩ := h
  obtain ⟨z1, z2, z3⟩ := zeroB_lens h2
  obtain ⟨z4, z5, z6, z7, _, _⟩ := zeroB_iff h2
  have z1 : t.parts = [] := z1
  have z2 : t.methods = [] := z2
  have z3 : t.overs = [] := z3
  have z4 : t.low = 0 := z4
  have z5 : t.high = 0 := z5
  have z6 : t.branded = false := z6
  have z7 : t.brand = ByteArray.empty := z7
  simp only [opaqueB, Bool.and_eq_true] at h1
  exact ⟨by simp [z1], by simp [z2], by simp [z3], by rw [z7]; exact sg_empty _, fun _ => z7, fun _ => ⟨z4, z5⟩, fun _ => z6, (symbol_sg h1.1).1, fun h => absurd k13 h, hk⟩
 ·simp only [Bool.and_eq_true, decide_eq_true_eq] at h
  obtain ⟨h1, h2⟩ := h
  obtain ⟨z1, z2, z3⟩ := zeroB_lens h2
  obtain ⟨z4, z5, z6, z7, z8, _⟩ := zeroB_iff h2
  exact ⟨by simp [z1], by simp [z2], by simp [z3], by rw [z7]; exact sg_empty _, fun _ => z7, fun _ => ⟨z4, z5⟩, fun _ => z6, by rw [z8]; exact sg_empty _, fun _ => z8, hk⟩
/-! ### a line as entries -/
theorem refs_part {t : Ty} {p : Part} (h : p ∈ t.parts) : p.type ∈ refsL t := by
 unfold refsL; simp only [List.mem_append]; exact .inr (.inl (List.mem_map_of_mem h))
theorem refs_meth {t : Ty} {m : Method} (h : m ∈ t.methods) {r : Int} (hr : r ∈ refsM m) : r ∈ refsL t := by
 unfold refsL; simp only [List.mem_append]; exact .inr (.inr (List.mem_flatMap.2 ⟨m, h, hr⟩))
/-! ### back from entries -/
section
variable {num num' : Int → ByteArray}
end
theorem All2.at {R : Nat → Nat → Prop} {xs ys : List Nat} (h : All2 R xs ys) {k i j : Nat} (h1 : xs[k]? = some i) (h2 : ys[k]? = some j) : R i j := by
 have := h.get k
 rw [h1, h2] at this
 exact this
end Go.Proofs.YtldnjnnhfeobdaaGreatDoor
/- Plain law: a graph that stands beside a well-formed one, its types being turned ones, is well-formed. No condition. -/
namespace Go.Proofs.YtldnjnnhfeobdaaGreatDoor
open Go.RowKit
/-! ### no walk up is without end -/
/-! ### a turned type -/
theorem turn_super {f : Int → Int} {t : Ty} (h : hasSuperB t.kind = false) : (turnT f t).super = t.super := by simp [turnT, h]
theorem turn_super' {f : Int → Int} {t : Ty} (h : hasSuperB t.kind = true) : (turnT f t).super = f t.super := by simp [turnT, h]
theorem refs_super {t : Ty} (h : hasSuperB t.kind = true) : t.super ∈ refsL t := by unfold refsL refsS; rw [h]; simp
/-! ### beside a well-formed graph -/
/-! ### turning keeps what can be compared -/
end Go.Proofs.YtldnjnnhfeobdaaGreatDoor
/- Plain law: types in another order, a type put behind all others again, merged types: texts and what is the same are what they were. No condition. -/
namespace Go.Proofs.YtldnjnnhfeobdaaGreatDoor
open Go.RowKit
/-! ### another order -/
/-! ### a twin behind all others -/
/-! ### merged types -/
def isRep (g : Graph) (i : Nat) : Bool := (classesG g).getD i 0 == i
def mergedTo (g : Graph) (i : Nat) : Nat := (List.range (clsG g i)).countP (isRep g)
theorem place_at {g : Graph} {i : Nat} (hi : i < g.length) (hr : clsG g i = i) : (placeL (classesG g) g.length g.length).getD i 0 = (List.range i).countP (isRep g) := by
 unfold placeL
 rw [List.getD_eq_getElem?_getD, List.getElem?_map, List.getElem?_range hi]
 have : (classesG g).getD i 0 = i := hr
 simp only [Option.map_some, Option.getD_some]
 rw [if_pos ⟨hi, this⟩]
 rfl
theorem toF_merged {g : Graph} (hg : WF g) {i : Nat} (hi : i < g.length) : toF (classesG g) (placeL (classesG g) g.length g.length) (i : Int) = (mergedTo g i : Nat) := by
 unfold toF mergedTo
 rw [Int.toNat_natCast]
 have h1 := clsG_lt hg hi
 have h2 := clsG_idem hg hi
 have e : (classesG g).getD i 0 = clsG g i := rfl
 rw [e, place_at h1 h2]
theorem mergeG_wf {g : Graph} (hg : WF g) : mergeG g = ((List.range g.length).filter (isRep g)).map fun i => turnT (toF (classesG g) (placeL (classesG g) g.length g.length)) (getT g i) := by
 unfold mergeG
 rw [errG_of hg (fun a h => by cases h), if_pos rfl]
 rfl
theorem merge_len {g : Graph} (hg : WF g) : (mergeG g).length ≤ g.length := by
 rw [mergeG_wf hg, List.length_map]
 have := List.length_filter_le (isRep g) (List.range g.length)
 simpa using this
theorem mergeTo_at {g : Graph} (hg : WF g) : mergeTo g = (List.range g.length).map fun i => (mergedTo g i : Int) := by
 unfold mergeTo
 rw [errG_of hg (fun a h => by cases h), if_pos rfl]
 refine List.ext_getElem? fun i => ?_
 rw [List.getElem?_map, List.getElem?_map]
 by_cases hi : i < g.length
 ·rw [List.getElem?_range hi, List.getElem?_eq_getElem (by rw [classesG_length g hg]; exact hi)]
  simp only [Option.map_some, Option.some.injEq]
  have e : (classesG g)[i]'(by rw [classesG_length g hg]; exact hi) = clsG g i := by
   unfold clsG
   rw [List.getD_eq_getElem?_getD, List.getElem?_eq_getElem (by rw [classesG_length g hg]; exact hi)]; rfl
  rw [e, place_at (clsG_lt hg hi) (clsG_idem hg hi)]
  rfl
 ·rw [List.getElem?_eq_none (by rw [classesG_length g hg]; omega), List.getElem?_eq_none (by simp; omega)]; rfl
end Go.Proofs.YtldnjnnhfeobdaaGreatDoor
/- Contracts of the reference: names, symbols, brands. Conditions: lengths below 2^20. -/
namespace Go.Proofs.YtldnjnnhfeobdaaGreatDoor
open Go.RowKit Go.Shelf
theorem name_bad {s : ByteArray} {k : Nat} (hk : k < s.size) (h : notNameB (s[k].toNat : Int) = true) : isNameB s = false := by
 unfold isNameB isNameL
 have : (byts s).any notNameB = true := List.any_eq_true.2 ⟨(s[k].toNat : Int), by rw [← byts_get s k hk]; exact List.getElem_mem _, h⟩
 rw [this]; simp
theorem name_good {s : ByteArray} (h1 : 1 ≤ s.size) (h2 : s.size ≤ 12) (hh : isLetterB (s[0].toNat : Int) = true) (h : ∀ j (hj : j < s.size), notNameB (s[j].toNat : Int) = false) : isNameB s = true := by
 unfold isNameB isNameL
 rw [byts_head s (by omega), hh, byts_length]
 have hr : inB ((s.size : Nat) : Int) 1 12 = true := by unfold inB; simp; omega
 have : (byts s).any notNameB = false := by
  rw [List.any_eq_false]
  intro x hx
  obtain ⟨i, hi, rfl⟩ := List.mem_iff_getElem.1 hx
  rw [byts_length] at hi
  rw [byts_get s i hi, h i hi]
  simp
 rw [hr, this]; rfl
set_option maxRecDepth 100000 in
set_option maxHeartbeats 4000000 in
theorem rname_any (s : ByteArray) (w : World) (hs : s.size ≤ 1048576) : Calls Tryz.prog 28 #[.string s] w fun e w' => e = .returned (.bool (isNameB s)) ∧ w' = w := by
 by_cases h1 : 1 ≤ s.size
 ·by_cases h2 : s.size ≤ 12
  ·have p1 : ¬ (s.size : Int) < 1 := by omega
   have p2 : ¬ (12 : Int) < (s.size : Int) := by omega
   cases hh : isLetterB (s[0].toNat : Int) with
   | false =>
    have hb : isNameB s = false := by unfold isNameB isNameL; rw [byts_head s (by omega), hh]; simp
    have Hh := Lib.hid hh
    clear hh
    rw [hb]
    go_enter Tryz.func28, Tryz.ntmps28
    go_wp2_with fail
    refine (letter_any _ _).mono ?_
    rintro e w' ⟨rfl, rfl⟩
    rw [Hh.out]
    go_wp2_with fail
    go_ret
    exact ⟨rfl, rfl⟩
   | true =>
    have Hh := Lib.hid hh
    clear hh
    go_enter Tryz.func28, Tryz.ntmps28
    go_wp2_with fail
    refine (letter_any _ _).mono ?_
    rintro e w' ⟨rfl, rfl⟩
    rw [Hh.out]
    go_wp2_with fail
    go_loopw [3] (fun u wr => ∃ k : Nat, k ≤ s.size ∧ u = .int .i64 k ∧ wr = w ∧ Hid (∀ j (hj : j < s.size), j < k → notNameB (s[j].toNat : Int) = false)) (fun u _ => s.size - (intOf u).toNat)
    case atStart => exact ⟨0, by omega, rfl, rfl, Lib.hid (fun j _ h => by omega)⟩
    case round =>
     obtain ⟨k, hk, rfl, rfl, Hno⟩ := hrel
     by_cases hlt : k < s.size
     ·have i0 : (0 : Int) ≤ (k : Int) := by omega
      have i1 : (k : Int) < (s.size : Int) := by omega
      cases hl : isLetterB (s[k].toNat : Int) with
      | true =>
       have Hl := Lib.hid hl
       clear hl
       go_wp2_with fail
       refine (letter_any _ _).mono ?_
       rintro e w' ⟨rfl, rfl⟩
       rw [Hl.out]
       go_wp2_with fail
       go_roundw
       case rel => exact ⟨k + 1, by omega, by go_num, trivial, Lib.hid (fun j hj hjk => if e : j = k then by subst e; unfold notNameB; rw [Hl.out]; rfl else Hno.out j hj (by omega))⟩
       case measure => simp [intOf]; omega
      | false =>
       cases hd : isDigitB (s[k].toNat : Int) with
       | true =>
        have Hl := Lib.hid hl
        have Hd := Lib.hid hd
        clear hl hd
        go_wp2_with fail
        refine (letter_any _ _).mono ?_
        rintro e w' ⟨rfl, rfl⟩
        rw [Hl.out]
        go_wp2_with fail
        refine (digit_any _ _).mono ?_
        rintro e w' ⟨rfl, rfl⟩
        rw [Hd.out]
        go_wp2_with fail
        go_roundw
        case rel => exact ⟨k + 1, by omega, by go_num, trivial, Lib.hid (fun j hj hjk => if e : j = k then by subst e; unfold notNameB; rw [Hl.out, Hd.out]; rfl else Hno.out j hj (by omega))⟩
        case measure => simp [intOf]; omega
       | false =>
        have hb : isNameB s = false := name_bad hlt (by unfold notNameB; rw [hl, hd]; rfl)
        have Hl := Lib.hid hl
        have Hd := Lib.hid hd
        have Hb := Lib.hid hb
        clear hl hd hb
        go_wp2_with fail
        refine (letter_any _ _).mono ?_
        rintro e w' ⟨rfl, rfl⟩
        rw [Hl.out]
        go_wp2_with fail
        refine (digit_any _ _).mono ?_
        rintro e w' ⟨rfl, rfl⟩
        rw [Hd.out]
        go_wp2_with fail
        go_ret
        rw [Hb.out]
        exact ⟨rfl, rfl⟩
     ·have hb : isNameB s = true := name_good h1 h2 Hh.out (fun j hj => Hno.out j hj (by omega))
      have i1 : ¬ (k : Int) < (s.size : Int) := by omega
      have Hb := Lib.hid hb
      clear hb
      go_wp2_with fail
      go_ret
      rw [Hb.out]
      exact ⟨rfl, rfl⟩
  ·have p1 : ¬ (s.size : Int) < 1 := by omega
   have p2 : (12 : Int) < (s.size : Int) := by omega
   have hb : isNameB s = false := by
    unfold isNameB isNameL
    have hr : inB ((byts s).length : Int) 1 12 = false := by rw [byts_length]; unfold inB; simp; omega
    rw [hr]; rfl
   rw [hb]
   go_enter Tryz.func28, Tryz.ntmps28
   go_wp2_with fail
   go_ret
   exact ⟨rfl, rfl⟩
 ·have p1 : (s.size : Int) < 1 := by omega
  have hb : isNameB s = false := by
   unfold isNameB isNameL
   have hr : inB ((byts s).length : Int) 1 12 = false := by rw [byts_length]; unfold inB; simp; omega
   rw [hr]; rfl
  rw [hb]
  go_enter Tryz.func28, Tryz.ntmps28
  go_wp2_with fail
  go_ret
  exact ⟨rfl, rfl⟩
theorem dot_uniq : ∀ {a a' b b' : List UInt8}, a ++ 46 :: b = a' ++ 46 :: b' → (46 : UInt8) ∉ a → (46 : UInt8) ∉ a' → a = a' ∧ b = b'
 | [], [], _, _, h, _, _ => by simp at h; exact ⟨rfl, h⟩
 | [], x :: a', _, _, h, _, h2 => by simp at h; exact absurd h.1 (fun e => h2 (by simp [e]))
 | x :: a, [], _, _, h, h1, _ => by simp at h; exact absurd h.1 (fun e => h1 (by simp [e]))
 | x :: a, y :: a', b, b', h, h1, h2 => by
  simp at h
  obtain ⟨e1, e2⟩ := dot_uniq h.2 (fun hm => h1 (by simp [hm])) (fun hm => h2 (by simp [hm]))
  exact ⟨by rw [h.1, e1], e2⟩
theorem symbol_dot {s : ByteArray} {a b : List UInt8} (h : s.data.toList = a ++ 46 :: b) (hn : (46 : UInt8) ∉ a) : isSymbolB s = (isNameB ⟨a.toArray⟩ && isNameB ⟨b.toArray⟩) := by
 rcases index_dot s.data.toList with ⟨_, h5⟩ | ⟨a', b', h4, h5, h6⟩
 ·exact absurd (by rw [h]; simp) h5
 ·obtain ⟨rfl, rfl⟩ := dot_uniq (h.symm.trans h4) hn h5
  have e : Lib.cut s.data.toList [46] = (a, b, true) := by
   unfold Lib.cut
   rw [h6, if_pos (by omega), h4]
   simp
  unfold isSymbolB cutB
  rw [e]; rfl
theorem symbol_none {s : ByteArray} (h : (46 : UInt8) ∉ s.data.toList) : isSymbolB s = false := by
 rcases index_dot s.data.toList with ⟨h4, _⟩ | ⟨a', b', h4, h5, h6⟩
 ·unfold isSymbolB cutB Lib.cut
  rw [h4, if_neg (by decide)]
  rfl
 ·exact absurd (by rw [h4]; simp) h
theorem byte_at (s : ByteArray) (j : Nat) (hj : j < s.size) : s.data.toList[j]'(by rw [toList_length]; exact hj) = s[j] := by simp; rfl
theorem symbol_at {s : ByteArray} {k : Nat} (hk : k < s.size) (h : (s[k].toNat : Int) = 46) (hno : ∀ j (hj : j < s.size), j < k → (s[j].toNat : Int) ≠ 46) :
  isSymbolB s = (isNameB (s.extract 0 k) && isNameB (s.extract (k + 1) s.size)) := by
 have hlen := toList_length s
 have e46 : s[k] = 46 := by
  apply UInt8.toNat_inj.1
  have : s[k].toNat = 46 := by omega
  rw [this]; rfl
 have hsplit : s.data.toList = s.data.toList.take k ++ 46 :: s.data.toList.drop (k + 1) := by
  have h1 := List.take_append_drop k s.data.toList
  rw [List.drop_eq_getElem_cons (by rw [hlen]; exact hk), byte_at s k hk, e46] at h1
  exact h1.symm
 have hn : (46 : UInt8) ∉ s.data.toList.take k := by
  intro hm
  obtain ⟨j, hj, e⟩ := List.mem_iff_getElem.1 hm
  rw [List.length_take] at hj
  rw [List.getElem_take, byte_at s j (by omega)] at e
  exact hno j (by omega) (by omega) (by rw [e]; rfl)
 rw [symbol_dot hsplit hn]
 have e1 : (⟨(s.data.toList.take k).toArray⟩ : ByteArray) = s.extract 0 k := by
  apply ByteArray.ext
  apply Array.toList_inj.1
  simp [ByteArray.data_extract, List.extract]
 have e2 : (⟨(s.data.toList.drop (k + 1)).toArray⟩ : ByteArray) = s.extract (k + 1) s.size := by
  apply ByteArray.ext
  apply Array.toList_inj.1
  simp [ByteArray.data_extract, List.extract]
  rw [List.take_of_length_le]
  rw [List.length_drop, hlen]
  omega
 rw [e1, e2]
set_option maxRecDepth 100000 in
set_option maxHeartbeats 4000000 in
theorem rsymbol_any (s : ByteArray) (w : World) (hs : s.size ≤ 1048576) : Calls Tryz.prog 30 #[.string s] w fun e w' => e = .returned (.bool (isSymbolB s)) ∧ w' = w := by
 go_enter Tryz.func30, Tryz.ntmps30
 go_wp2_with fail
 go_loopw [3] (fun u wr => ∃ k : Nat, k ≤ s.size ∧ u = .int .i64 k ∧ wr = w ∧ Hid (∀ j (hj : j < s.size), j < k → (s[j].toNat : Int) ≠ 46)) (fun u _ => s.size - (intOf u).toNat)
 case atStart => exact ⟨0, by omega, rfl, rfl, Lib.hid (fun j _ h => by omega)⟩
 case round =>
  obtain ⟨k, hk, rfl, rfl, Hno⟩ := hrel
  by_cases hlt : k < s.size
  ·have i0 : (0 : Int) ≤ (k : Int) := by omega
   have i1 : (k : Int) < (s.size : Int) := by omega
   by_cases hd : (s[k].toNat : Int) = 46
   ·have hd' : ((s[k].toNat : Int) == 46) = true := by simpa using hd
    go_wp2_with fail
    have hsym := symbol_at hlt hd (fun j hj hjk => Hno.out j hj hjk)
    refine (rname_any _ _ (by simp; omega)).mono ?_
    rintro e w' ⟨rfl, rfl⟩
    cases h1 : isNameB (s.extract 0 k) with
    | false =>
     rw [h1, Bool.false_and] at hsym
     have Hs := Lib.hid hsym
     clear hsym h1
     go_wp2_with fail
     go_ret
     rw [Hs.out]
     exact ⟨rfl, rfl⟩
    | true =>
     rw [h1, Bool.true_and] at hsym
     have Hs := Lib.hid hsym
     clear hsym h1
     go_wp2_with fail
     refine (rname_any _ _ (by simp; omega)).mono ?_
     rintro e w' ⟨rfl, rfl⟩
     rw [← Hs.out]
     go_wp2_with fail
     go_ret
     exact ⟨rfl, rfl⟩
   ·have hd' : ((s[k].toNat : Int) == 46) = false := by rw [beq_eq_false_iff_ne]; exact hd
    have Hd := Lib.hid hd
    clear hd
    go_wp2_with fail
    go_roundw
    case rel => exact ⟨k + 1, by omega, by go_num, trivial, Lib.hid (fun j hj hjk => if e : j = k then by subst e; exact Hd.out else Hno.out j hj (by omega))⟩
    case measure => simp [intOf]; omega
  ·have i1 : ¬ (k : Int) < (s.size : Int) := by omega
   have hb : isSymbolB s = false := symbol_none (fun hm => by
    obtain ⟨j, hj, e⟩ := List.mem_iff_getElem.1 hm
    have hjs : j < s.size := by rw [toList_length] at hj; exact hj
    rw [byte_at s j hjs] at e
    exact Hno.out j hjs (by omega) (by rw [e]; rfl))
   have Hb := Lib.hid hb
   clear hb
   go_wp2_with fail
   go_ret
   rw [Hb.out]
   exact ⟨rfl, rfl⟩
end Go.Proofs.YtldnjnnhfeobdaaGreatDoor
/- Contracts of the reference: equal lists of strings, signatures, parts. Conditions: lengths below 2^20. -/
namespace Go.Proofs.YtldnjnnhfeobdaaGreatDoor
open Go.RowKit Go.Shelf
set_option maxRecDepth 100000 in
set_option maxHeartbeats 4000000 in
theorem rstrings_any (w : World) (u v : Value) (xs ys : List ByteArray) (hu : Sl strE w u xs) (hv : Sl strE w v ys) (hx : xs.length ≤ 1048576) (hy : ys.length ≤ 1048576) :
  Calls Tryz.prog 86 #[u, v] w (Ret w (.bool (eqF strEq xs ys))) := by
 obtain ⟨A, ca, rfl, ha⟩ := hu.str
 obtain ⟨B, cb, rfl, hb⟩ := hv.str
 have Ha := Lib.hid ha
 have Hb := Lib.hid hb
 clear ha hb hu hv
 by_cases hl : xs.length = ys.length
 ·have hl' : ((xs.length : Int) == (ys.length : Int)) = true := by simp; omega
  have hln : ((xs.length : Int) != (ys.length : Int)) = false := by simp; omega
  obtain ⟨wo, rfl⟩ : ∃ wo : World, wo = w := ⟨_, rfl⟩
  go_enter Tryz.func86, Tryz.ntmps86
  go_wp2_with fail
  go_loopw [5] (fun u wr => ∃ k : Nat, k ≤ xs.length ∧ u = .int .i64 k ∧ Hid (Ext wo wr) ∧ Hid (∀ j (h1 : j < xs.length) (h2 : j < ys.length), j < k → strEq xs[j] ys[j] = true)) (fun u _ => xs.length - (intOf u).toNat)
  case atStart => exact ⟨0, by omega, rfl, Lib.hid (Ext.refl _), Lib.hid (fun j _ _ h => by omega)⟩
  case round =>
   obtain ⟨k, hk, rfl, Hx, Hno⟩ := hrel
   by_cases hlt : k < xs.length
   ·obtain ⟨b1, o1, rfl, c1⟩ := Ha.out k hlt
    obtain ⟨b2, o2, rfl, c2⟩ := Hb.out k (by omega)
    replace c1 := Hx.out.cell c1
    replace c2 := Hx.out.cell c2
    have l1 := cell_lt c1
    have l2 := cell_lt c2
    have i0 : (0 : Int) ≤ (k : Int) := by omega
    have i1 : (k : Int) < (xs.length : Int) := by omega
    have i2 : (k : Int) < (ys.length : Int) := by omega
    have hlt2 : k < ys.length := by omega
    have Hs := Lib.hid (show strEq xs[k] ys[k] = (xs[k].toList == ys[k].toList) from rfl)
    cases he : (xs[k].toList == ys[k].toList) with
    | true =>
     have Hse := Lib.hid (Hs.out.trans he)
     have hnext := fun j (h1 : j < xs.length) (h2 : j < ys.length) (hjk : j < k + 1) => if e : j = k then (by subst e; exact Hse.out : strEq xs[j] ys[j] = true) else Hno.out j h1 h2 (by omega)
     have Hn := Lib.hid hnext
     have he2 : xs[k].toList = ys[k].toList := by simpa using he
     clear hnext
     go_wp2_with fail
     go_quiet (fail)
     go_wp2_with fail
     go_roundw
     case rel => exact ⟨k + 1, by omega, by go_num, Lib.hid (Hx.out.drewN _), Hn⟩
     case measure => simp [intOf]; omega
    | false =>
     have hf : eqF strEq xs ys = false := eqF_no hlt hlt2 (Hs.out.trans he)
     have he2 : ¬ xs[k].toList = ys[k].toList := by simpa using he
     have he3 : (xs[k].toList != ys[k].toList) = true := by simpa using he
     have Hf := Lib.hid hf
     clear hf Hs
     generalize xs[k] = x at *
     generalize ys[k] = y at *
     go_wp2_with fail
     go_quiet (fail)
     go_wp2_with fail
     go_ret
     rw [Hf.out]
     exact ⟨rfl, Hx.out.drewN _⟩
   ·have i1 : ¬ (k : Int) < (xs.length : Int) := by omega
    have hf : eqF strEq xs ys = true := eqF_yes hl (j := k) hlt (fun i h1 h2 h3 => Hno.out i h1 h2 h3)
    have Hf := Lib.hid hf
    clear hf
    go_wp2_with fail
    go_ret
    rw [Hf.out]
    exact ⟨rfl, Hx.out⟩
 ·have hln : ((xs.length : Int) != (ys.length : Int)) = true := by simp; omega
  have hf : eqF strEq xs ys = false := eqF_len hl
  rw [hf]
  go_enter Tryz.func86, Tryz.ntmps86
  go_wp2_with fail
  go_ret
  exact ⟨rfl, Ext.refl _⟩
theorem sig_long {n : Nat} {m : Method} (h : 6 < m.args.length ∨ 6 < m.raises.length ∨ m.result < -1 ∨ (n : Int) ≤ m.result) : sigB n m = false := by
 cases hb : sigB n m with
 | false => rfl
 | true =>
  unfold sigB at hb
  simp only [Bool.and_eq_true, decide_eq_true_iff, Bool.or_eq_true, hasB_iff] at hb
  omega
theorem sig_arg {n : Nat} {m : Method} {k : Nat} (hk : k < m.args.length) (h : m.args[k] < 0 ∨ (n : Int) ≤ m.args[k]) : sigB n m = false := by
 cases hb : sigB n m with
 | false => rfl
 | true =>
  unfold sigB at hb
  simp only [Bool.and_eq_true, Bool.not_eq_true', List.any_eq_false] at hb
  have := hb.1.2.2.2 _ (List.getElem_mem hk)
  have h2 : hasB n m.args[k] = true := by simpa using this
  rw [hasB_iff] at h2
  omega
theorem sig_rest {n : Nat} {m : Method} (h1 : ¬ 6 < m.args.length) (h2 : ¬ 6 < m.raises.length) (h3 : ¬ m.result < -1) (h4 : ¬ (n : Int) ≤ m.result)
  (h5 : ∀ j (hj : j < m.args.length), 0 ≤ m.args[j] ∧ m.args[j] < n) : sigB n m = raisesFrom none m.raises := by
 unfold sigB
 have e1 : decide (m.args.length ≤ 6) = true := decide_eq_true (by omega)
 have e2 : decide (m.raises.length ≤ 6) = true := decide_eq_true (by omega)
 have e3 : (decide (m.result = -1) || hasB n m.result) = true := by
  by_cases h : m.result = -1
  ·simp [h]
  ·rw [Bool.or_eq_true]; exact .inr (hasB_iff.2 (by omega))
 have e4 : (m.args.any fun i => !hasB n i) = false := by
  rw [List.any_eq_false]
  intro x hx
  obtain ⟨j, hj, rfl⟩ := List.mem_iff_getElem.1 hx
  simp [hasB_iff.2 (h5 j hj)]
 rw [e1, e2, e3, e4]
 rfl
set_option maxRecDepth 100000 in
set_option maxHeartbeats 8000000 in
theorem rsig_any (w : World) (A : Option Addr) (n cap : Nat) (m : Method) (va vr : Value) (hn : n ≤ 1048576) (ha : Sl intE w va m.args) (hr : Sl strE w vr m.raises)
  (hal : m.args.length ≤ 1048576) (hrl : m.raises.length ≤ 1048576) (hrs : ∀ r ∈ m.raises, r.size ≤ 1048576) :
  Calls Tryz.prog 161 #[.slice A n cap, .agg #[va, .int .i64 m.result, vr]] w (Ret w (.bool (sigB n m))) := by
 obtain ⟨Aa, ca, rfl, hca⟩ := ha.int
 obtain ⟨Ar, cr, rfl, hcr⟩ := hr.str
 have Hca := Lib.hid hca
 have Hcr := Lib.hid hcr
 have Hrs := Lib.hid hrs
 clear ha hr hca hcr hrs
 by_cases h1 : 6 < m.args.length
 ·have p1 : (6 : Int) < (m.args.length : Int) := by omega
  rw [sig_long (.inl h1)]
  go_enter Tryz.func161, Tryz.ntmps161
  go_wp2_with fail
  go_ret
  exact ⟨rfl, (Ext.refl _).alloc _⟩
 by_cases h2 : 6 < m.raises.length
 ·have p1 : ¬ (6 : Int) < (m.args.length : Int) := by omega
  have p2 : (6 : Int) < (m.raises.length : Int) := by omega
  rw [sig_long (.inr (.inl h2))]
  go_enter Tryz.func161, Tryz.ntmps161
  go_wp2_with fail
  go_ret
  exact ⟨rfl, (Ext.refl _).alloc _⟩
 by_cases h3 : m.result < -1
 ·have p1 : ¬ (6 : Int) < (m.args.length : Int) := by omega
  have p2 : ¬ (6 : Int) < (m.raises.length : Int) := by omega
  rw [sig_long (.inr (.inr (.inl h3)))]
  go_enter Tryz.func161, Tryz.ntmps161
  go_wp2_with fail
  go_ret
  exact ⟨rfl, (Ext.refl _).alloc _⟩
 by_cases h4 : (n : Int) ≤ m.result
 ·have p1 : ¬ (6 : Int) < (m.args.length : Int) := by omega
  have p2 : ¬ (6 : Int) < (m.raises.length : Int) := by omega
  rw [sig_long (.inr (.inr (.inr h4)))]
  go_enter Tryz.func161, Tryz.ntmps161
  go_wp2_with fail
  go_ret
  exact ⟨rfl, (Ext.refl _).alloc _⟩
 have p1 : ¬ (6 : Int) < (m.args.length : Int) := by omega
 have p2 : ¬ (6 : Int) < (m.raises.length : Int) := by omega
 have hx0 := (Ext.refl w).alloc (.cells #[.slice Aa m.args.length ca, .int .i64 m.result, .slice Ar m.raises.length cr] 72)
 have hbx := heap_alloc_self w (.cells #[.slice Aa m.args.length ca, .int .i64 m.result, .slice Ar m.raises.length cr] 72)
 have Hc0 := Lib.hid (heap_cell hbx 0 _ rfl)
 have Hc2 := Lib.hid (heap_cell hbx 2 _ rfl)
 have Hx0 := Lib.hid hx0
 have Hrest := Lib.hid (fun h5 => sig_rest (n := n) h1 h2 h3 h4 h5)
 clear hx0 hbx
 go_enter Tryz.func161, Tryz.ntmps161
 go_wp2_with fail
 generalize (w.alloc (.cells #[.slice Aa m.args.length ca, .int .i64 m.result, .slice Ar m.raises.length cr] 72)) = w1 at *
 generalize w.heap.size = b1 at *
 go_loopw [5] (fun u wr => ∃ k : Nat, k ≤ m.args.length ∧ u = .int .i64 k ∧ wr = w1 ∧ Hid (∀ j (hj : j < m.args.length), j < k → 0 ≤ m.args[j] ∧ m.args[j] < n)) (fun u _ => m.args.length - (intOf u).toNat)
 case atStart => exact ⟨0, by omega, rfl, rfl, Lib.hid (fun j _ h => by omega)⟩
 case round =>
  obtain ⟨k, hk, rfl, rfl, Hno⟩ := hrel
  have d0 := Hc0.out
  have l0 := cell_lt d0
  by_cases hlt : k < m.args.length
  ·obtain ⟨b, off, rfl, a0⟩ := Hca.out k hlt
   replace a0 := Hx0.out.cell a0
   have la := cell_lt a0
   have i0 : (0 : Int) ≤ (k : Int) := by omega
   have i1 : (k : Int) < (m.args.length : Int) := by omega
   have hbad := sig_arg (n := n) hlt
   have hnext := fun (h : 0 ≤ m.args[k] ∧ m.args[k] < n) j (hj : j < m.args.length) (hjk : j < k + 1) => if e : j = k then (by subst e; exact h : 0 ≤ m.args[j] ∧ m.args[j] < n) else Hno.out j hj (by omega)
   have Hbad := Lib.hid hbad
   have Hnext := Lib.hid hnext
   clear hbad hnext
   generalize m.args[k] = x at *
   by_cases c1 : x < 0
   ·have Hb := Lib.hid (Hbad.out (.inl c1))
    go_wp2_with fail
    go_ret
    rw [Hb.out]
    exact ⟨rfl, Hx0.out⟩
   ·by_cases c2 : (n : Int) ≤ x
    ·have Hb := Lib.hid (Hbad.out (.inr c2))
     go_wp2_with fail
     go_ret
     rw [Hb.out]
     exact ⟨rfl, Hx0.out⟩
    ·have Hn := Lib.hid (Hnext.out (by omega))
     go_wp2_with fail
     go_roundw
     case rel => exact ⟨k + 1, by omega, by go_num, trivial, Hn⟩
     case measure => simp [intOf]; omega
  ·have hrest := Hrest.out (fun j hj => Hno.out j hj (by omega))
   have i1 : ¬ (k : Int) < (m.args.length : Int) := by omega
   have Hsig := Lib.hid hrest
   clear hrest Hno hk
   go_wp2_with fail
   obtain ⟨wa, rfl⟩ : ∃ wa : World, wa = wr := ⟨_, rfl⟩
   go_loopw [6] (fun u wr => ∃ k : Nat, k ≤ m.raises.length ∧ u = .int .i64 k ∧ Hid (Ext wa wr) ∧ Hid (raisesFrom none m.raises = raisesFrom (prevAt m.raises k) (m.raises.drop k))) (fun u _ => m.raises.length - (intOf u).toNat)
   case atStart => exact ⟨0, by omega, rfl, Lib.hid (Ext.refl _), by simp [Hid, prevAt]⟩
   case round =>
    clear d0 l0
    obtain ⟨k, hk, rfl, Hx, Hinv⟩ := hrel
    have d2 := Hx.out.cell Hc2.out
    have l2 := cell_lt d2
    by_cases hlt : k < m.raises.length
    ·obtain ⟨b, off, rfl, a0⟩ := Hcr.out k hlt
     replace a0 := (Hx0.out.trans Hx.out).cell a0
     have la := cell_lt a0
     have i0 : (0 : Int) ≤ (k : Int) := by omega
     have i1 : (k : Int) < (m.raises.length : Int) := by omega
     have Hinv2 : Hid (raisesFrom none m.raises = (raiseOk (prevAt m.raises k) m.raises[k] && raisesFrom (prevAt m.raises (k + 1)) (m.raises.drop (k + 1)))) := by
      rw [Hinv.out, raises_step _ _ hlt]; rfl
     have Hal := Lib.hid (show (m.raises[k].toList == [65, 76, 69, 82, 84, 69, 68]) = strEq m.raises[k] alerted by rw [← alerted_toList]; rfl)
     have hsz := Hrs.out _ (List.getElem_mem hlt)
     have Hsy := Lib.hid (fun w => rsymbol_any m.raises[k] w hsz)
     have Hbad := Lib.hid (fun (h : raiseOk (prevAt m.raises k) m.raises[k] = false) => (Hsig.out.trans (Hinv2.out.trans (by rw [h]; rfl)) : sigB n m = false))
     have Hgood := Lib.hid (fun (h : raiseOk (prevAt m.raises k) m.raises[k] = true) => (Hinv2.out.trans (by rw [h]; exact Bool.true_and _) : raisesFrom none m.raises = raisesFrom (prevAt m.raises (k + 1)) (m.raises.drop (k + 1))))
     have hprev : ∃ pl : Bool, Hid (raiseOk (prevAt m.raises k) m.raises[k] = ((strEq m.raises[k] alerted || isSymbolB m.raises[k]) && pl)) ∧
       (k = 0 ∧ pl = true ∨ ∃ i, k = i + 1 ∧ ∃ (hi : i < m.raises.length), Op.bytesLess m.raises[i].toList m.raises[k].toList = pl) := by
      cases k with
      | zero => exact ⟨true, rfl, .inl ⟨rfl, rfl⟩⟩
      | succ i => exact ⟨lessB m.raises[i] m.raises[i + 1], by simp only [Hid, raiseOk, prevAt_pos _ _ hlt], .inr ⟨i, rfl, by omega, rfl⟩⟩
     obtain ⟨pl, Hro, hpl⟩ := hprev
     clear Hinv Hinv2
     generalize hr : m.raises[k] = r at *
     generalize strEq r alerted = al at Hal Hro
     generalize isSymbolB r = sy at Hsy Hro
     have hal := Hal.out
     clear Hal hsz hr
     cases al with
     | false =>
      have hal2 : ¬ r.toList = [65, 76, 69, 82, 84, 69, 68] := by simpa using hal
      have hal3 : (r.toList != [65, 76, 69, 82, 84, 69, 68]) = true := by simpa using hal
      cases sy with
      | false =>
       have Hb := Lib.hid (Hbad.out Hro.out)
       go_wp2_with fail
       go_quiet ((go_at_call 30; exact Calls.quiet_of_same (Hsy.out _)))
       go_wp2_with fail
       go_ret
       rw [Hb.out]
       exact ⟨rfl, Hx0.out.trans (Hx.out.drewN _)⟩
      | true =>
       rcases hpl with ⟨rfl, rfl⟩ | ⟨i, rfl, hi, hless⟩
       ·have Hg := Lib.hid (Hgood.out Hro.out)
        have j0 : decide ((0 : Int) < ((0 : Nat) : Int)) = false := rfl
        simp only [Nat.add_zero] at a0 la
        clear Hro
        go_wp2_with fail
        go_quiet ((go_at_call 30; exact Calls.quiet_of_same (Hsy.out _)))
        go_wp2_with fail
        go_roundw
        case rel => exact ⟨1, by omega, by go_num, Lib.hid (Hx.out.drewN _), Hg⟩
        case measure => simp [intOf]; omega
       ·obtain ⟨b', off', hb', a1⟩ := Hcr.out i hi
        cases hb'
        replace a1 := (Hx0.out.trans Hx.out).cell a1
        generalize m.raises[i] = p at *
        have j0 : decide ((0 : Int) < ((i + 1 : Nat) : Int)) = true := decide_eq_true (by omega)
        have j1 : (0 : Int) < ((i + 1 : Nat) : Int) := by omega
        cases pl with
        | true =>
         have Hg := Lib.hid (Hgood.out Hro.out)
         clear Hro
         go_wp2_with fail
         go_quiet ((go_at_call 30; exact Calls.quiet_of_same (Hsy.out _)))
         go_wp2_with fail
         go_roundw
         case rel => exact ⟨i + 1 + 1, by omega, by go_num, Lib.hid (Hx.out.drewN _), Hg⟩
         case measure => simp [intOf]; omega
        | false =>
         have Hb := Lib.hid (Hbad.out Hro.out)
         clear Hro
         go_wp2_with fail
         go_quiet ((go_at_call 30; exact Calls.quiet_of_same (Hsy.out _)))
         go_wp2_with fail
         go_ret
         rw [Hb.out]
         exact ⟨rfl, Hx0.out.trans (Hx.out.drewN _)⟩
     | true =>
      have hal3 : (r.toList != [65, 76, 69, 82, 84, 69, 68]) = false := by simpa using hal
      rcases hpl with ⟨rfl, rfl⟩ | ⟨i, rfl, hi, hless⟩
      ·have Hg := Lib.hid (Hgood.out Hro.out)
       have j0 : decide ((0 : Int) < ((0 : Nat) : Int)) = false := rfl
       simp only [Nat.add_zero] at a0 la
       clear Hro
       go_wp2_with fail
       go_quiet (fail)
       go_wp2_with fail
       go_roundw
       case rel => exact ⟨1, by omega, by go_num, Lib.hid (Hx.out.drewN _), Hg⟩
       case measure => simp [intOf]; omega
      ·obtain ⟨b', off', hb', a1⟩ := Hcr.out i hi
       cases hb'
       replace a1 := (Hx0.out.trans Hx.out).cell a1
       generalize m.raises[i] = p at *
       have j0 : decide ((0 : Int) < ((i + 1 : Nat) : Int)) = true := decide_eq_true (by omega)
       have j1 : (0 : Int) < ((i + 1 : Nat) : Int) := by omega
       cases pl with
       | true =>
        have Hg := Lib.hid (Hgood.out Hro.out)
        clear Hro
        go_wp2_with fail
        go_quiet (fail)
        go_wp2_with fail
        go_roundw
        case rel => exact ⟨i + 1 + 1, by omega, by go_num, Lib.hid (Hx.out.drewN _), Hg⟩
        case measure => simp [intOf]; omega
       | false =>
        have Hb := Lib.hid (Hbad.out Hro.out)
        clear Hro
        go_wp2_with fail
        go_quiet (fail)
        go_wp2_with fail
        go_ret
        rw [Hb.out]
        exact ⟨rfl, Hx0.out.trans (Hx.out.drewN _)⟩
    ·have hf : raisesFrom none m.raises = true := by rw [Hinv.out, List.drop_of_length_le (by omega)]; rfl
     have i1 : ¬ (k : Int) < (m.raises.length : Int) := by omega
     have Hf := Lib.hid (Hsig.out.trans hf)
     clear hf
     go_wp2_with fail
     go_ret
     rw [Hf.out]
     exact ⟨rfl, Hx0.out.trans Hx.out⟩
end Go.Proofs.YtldnjnnhfeobdaaGreatDoor
