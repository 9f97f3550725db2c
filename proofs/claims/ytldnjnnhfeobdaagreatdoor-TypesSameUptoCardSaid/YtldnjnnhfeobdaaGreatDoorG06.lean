/- Parts of the proof, joined: Plain theory: types whose texts are equal are the same. No program. No condition; Plain theory: the text of a right type is short. Condition: its words are below 2^20; Contract: the text of a type. Conditions: a right graph, lengths below 2^20; Contracts: text, Text, Print. Conditions: lengths below 2^20; Contracts: Text, Print. Conditions: a tidy graph; for Print a text below 2^20; Contract: light, of the law. Condition: lengths below 2^20; Pairs of ints as keys; a queue of the call's own: a slice that is appended to behind and cut in front. No condition; Plain theory: the search as a relation; a search that has not marked its start finds the same. No program. No condition. -/
import Derived.Lib.ItoaLen
import Derived.Deep.MidRow
import Derived.Deep.RegionLawGrows
import Derived.ArgAppend
import Derived.ChangeKeysEq
import Derived.Test.YtldnjnnhfeobdaaGreatDoorG05
import Derived.Test.YtldnjnnhfeobdaaGreatDoorG04
import Derived.Test.YtldnjnnhfeobdaaGreatDoorG02
import Derived.Test.YtldnjnnhfeobdaaGreatDoorG01
namespace Go.Proofs.YtldnjnnhfeobdaaGreatDoor
set_option linter.all false
set_option linter.unusedSimpArgs false
set_option linter.unusedVariables false

/-! ### what signs names, symbols and brands have -/
def Sg (P : UInt8 → Bool) (s : ByteArray) : Prop := AllC P s.data.toList
theorem name_sg {s : ByteArray} (h : isNameB s = true) : Sg nameC s ∧ s.data.toList ≠ [] := by
  simp only [isNameB, isNameL, Bool.and_eq_true, inB, decide_eq_true_eq, Bool.not_eq_true', List.any_eq_false] at h
  obtain ⟨⟨h1, _⟩, _, h2⟩ := h
  refine ⟨fun c hc => ?_, fun e => ?_⟩
  · have := h2 (c.toNat : Int) (List.mem_map.2 ⟨c, hc, rfl⟩)
    unfold nameC
    simpa using this
  · unfold byts at h1
    rw [e] at h1
    simp at h1
theorem nameC_symC {c : UInt8} (h : nameC c = true) : symC c = true := by unfold symC; rw [h]; rfl
theorem index_dot : ∀ s : List UInt8, (Lib.index s [46] = -1 ∧ (46 : UInt8) ∉ s) ∨ ∃ a b, s = a ++ 46 :: b ∧ (46 : UInt8) ∉ a ∧ Lib.index s [46] = (a.length : Int)
  | [] => .inl ⟨rfl, by simp⟩
  | c :: l => by
    by_cases e : c = 46
    · subst e
      exact .inr ⟨[], l, rfl, by simp, rfl⟩
    · have h0 : ([46] : List UInt8).isPrefixOf (c :: l) = false := by
        simp [List.isPrefixOf]; exact fun h => e h.symm
      rcases index_dot l with ⟨h1, h2⟩ | ⟨a, b, h1, h2, h3⟩
      · refine .inl ⟨?_, by simp [h2, Ne.symm e]⟩
        rw [Lib.index, h0, h1]; rfl
      · refine .inr ⟨c :: a, b, by rw [h1]; rfl, by simp [h2, Ne.symm e], ?_⟩
        rw [Lib.index, h0, h3]
        have : ((a.length : Int) == -1) = false := by rw [beq_eq_false_iff_ne]; omega
        simp [this]
theorem symbol_parts {s : ByteArray} (h : isSymbolB s = true) : ∃ a b, s.data.toList = a ++ 46 :: b ∧ isNameB ⟨a.toArray⟩ = true ∧ isNameB ⟨b.toArray⟩ = true := by
  unfold isSymbolB cutB at h
  simp only [Bool.and_eq_true] at h
  obtain ⟨h1, h2, h3⟩ := h
  rcases index_dot s.data.toList with ⟨h4, _⟩ | ⟨a, b, h4, h5, h6⟩
  · unfold Lib.cut at h1
    rw [h4, if_neg (by decide)] at h1
    cases h1
  · have e : Lib.cut s.data.toList [46] = (a, b, true) := by
      unfold Lib.cut
      rw [h6, if_pos (by omega), h4]
      simp
    rw [e] at h2 h3
    exact ⟨a, b, h4, h2, h3⟩
theorem symbol_sg {s : ByteArray} (h : isSymbolB s = true) : Sg symC s ∧ s.data.toList ≠ [] := by
  obtain ⟨a, b, h1, h2, h3⟩ := symbol_parts h
  refine ⟨fun c hc => ?_, by rw [h1]; simp⟩
  rw [h1] at hc
  rcases List.mem_append.1 hc with hc | hc
  · exact nameC_symC ((name_sg h2).1 c hc)
  · rcases List.mem_cons.1 hc with rfl | hc
    · rfl
    · exact nameC_symC ((name_sg h3).1 c hc)
theorem brand_sg {s : ByteArray} (h : isBrandB s = true) : Sg brandC s := by
  simp only [isBrandB, Bool.and_eq_true, Bool.not_eq_true', List.any_eq_false, decide_eq_true_eq] at h
  intro c hc
  have := h.2 (c.toNat : Int) (List.mem_map.2 ⟨c, hc, rfl⟩)
  unfold brandC
  simp only [Bool.not_eq_true', beq_eq_false_iff_ne]
  rintro rfl
  exact this (by simp)
theorem toList_nil {s : ByteArray} (h : s.toList = []) : s = ByteArray.empty := ba_toList_inj (by rw [h, toList_empty])
theorem strEq_nil {s : ByteArray} (h : strEq s ByteArray.empty = true) : s = ByteArray.empty := strEq_iff.1 h
theorem sg_empty (P : UInt8 → Bool) : Sg P ByteArray.empty := by intro c hc; simp at hc

/-- what the text of a right type leans on -/
structure Txt (t : Ty) : Prop where
  part : ∀ p ∈ t.parts, Sg nameC p.name
  meth : ∀ m ∈ t.methods, Sg nameC m.name ∧ (∀ r ∈ m.raises, Sg symC r ∧ r.data.toList ≠ []) ∧ Sg symC m.proc
  over : ∀ o ∈ t.overs, Sg nameC o.name ∧ Sg symC o.proc
  brand : Sg brandC t.brand
  bare : t.branded = false → t.brand = ByteArray.empty
  low : t.kind ≠ 3 → t.low = 0 ∧ t.high = 0
  noBrand : ¬ (t.kind = 9 ∨ t.kind = 11 ∨ t.kind = 10 ∨ t.kind = 12) → t.branded = false
  opaq : Sg symC t.opaq
  noOpaq : t.kind ≠ 13 → t.opaq = ByteArray.empty
  kind : 1 ≤ t.kind ∧ t.kind < 14
theorem zeroB_iff {t : Ty} (h : zeroB t = true) : t.low = 0 ∧ t.high = 0 ∧ t.branded = false ∧ t.brand = ByteArray.empty ∧ t.opaq = ByteArray.empty ∧ t.super = 0 := by
  simp only [zeroB, Bool.and_eq_true, decide_eq_true_eq, Bool.not_eq_true', List.isEmpty_iff] at h
  obtain ⟨⟨h1, h2, h3, h4, h5, h6⟩, _⟩ := h
  exact ⟨h1, h2, h3, toList_nil h4, toList_nil h5, h6⟩
theorem distinct_names : ∀ {l seen : List ByteArray}, distinctFrom seen l = true → ∀ s ∈ l, isNameB s = true
  | [], _, _ => by simp
  | n :: r, seen, h => by
    unfold distinctFrom at h
    split at h
    · cases h
    · simp only [Bool.and_eq_true] at h
      intro s hs
      rcases List.mem_cons.1 hs with rfl | hs
      · exact h.1
      · exact distinct_names h.2 s hs
theorem different_names {l : List ByteArray} {k : Int} (h : differentB l k = true) : ∀ s ∈ l, isNameB s = true := by
  simp only [differentB, Bool.and_eq_true] at h
  exact distinct_names h.1
theorem branded_txt {n : Nat} {t : Ty} (h : brandedB n t = true) : Sg brandC t.brand ∧ (t.branded = false → t.brand = ByteArray.empty) := by
  simp only [brandedB, Bool.and_eq_true, Bool.or_eq_true] at h
  refine ⟨brand_sg h.1, fun e => ?_⟩
  rcases h.2.1 with h2 | h2
  · rw [e] at h2; cases h2
  · exact strEq_nil h2
theorem raises_sg : ∀ {l : List ByteArray} {p : Option ByteArray}, raisesFrom p l = true → ∀ r ∈ l, Sg symC r ∧ r.data.toList ≠ []
  | [], _, _ => by simp
  | x :: l, p, h => by
    simp only [raisesFrom, Bool.and_eq_true] at h
    intro r hr
    rcases List.mem_cons.1 hr with rfl | hr
    · have h1 := h.1
      simp only [raiseOk, Bool.and_eq_true, Bool.or_eq_true] at h1
      rcases h1.1 with h2 | h2
      · have e := strEq_iff.1 h2
        subst e
        exact ⟨by unfold Sg AllC alerted; decide, by decide⟩
      · exact symbol_sg h2
    · exact raises_sg h.2 r hr
theorem right_txt {g : Graph} {t : Ty} (h : rightB g t = true) : Txt t := by
  have hk := (right_fine h).kind
  unfold rightB at h
  split at h
  · rename_i k3
    simp only [Bool.and_eq_true] at h
    obtain ⟨z1, z2, z3⟩ := zeroB_lens h.2
    obtain ⟨_, _, z4, z5, z6, _⟩ := zeroB_iff h.2
    have z1 : t.parts = [] := z1
    have z2 : t.methods = [] := z2
    have z3 : t.overs = [] := z3
    have z4 : t.branded = false := z4
    have z5 : t.brand = ByteArray.empty := z5
    have z6 : t.opaq = ByteArray.empty := z6
    exact ⟨by simp [z1], by simp [z2], by simp [z3], by rw [z5]; exact sg_empty _, fun _ => z5, fun h => absurd k3 h, fun _ => z4, by rw [z6]; exact sg_empty _, fun _ => z6, hk⟩
  split at h
  · rename_i k9
    simp only [Bool.and_eq_true] at h
    obtain ⟨h1, h2⟩ := h
    obtain ⟨_, z2, z3⟩ := zeroB_lens h2
    obtain ⟨z4, z5, _, _, z6, _⟩ := zeroB_iff h2
    have z2 : t.methods = [] := z2
    have z3 : t.overs = [] := z3
    have z4 : t.low = 0 := z4
    have z5 : t.high = 0 := z5
    have z6 : t.opaq = ByteArray.empty := z6
    simp only [heldB, Bool.and_eq_true, decide_eq_true_eq] at h1
    obtain ⟨b1, b2⟩ := branded_txt h1.1
    refine ⟨?_, by simp [z2], by simp [z3], b1, b2, fun _ => ⟨z4, z5⟩, fun h => absurd (by omega) h, by rw [z6]; exact sg_empty _, fun _ => z6, hk⟩
    obtain ⟨h3, h4⟩ := h1.2
    intro p hp
    match hl : t.parts with
    | [] => rw [hl] at hp; simp at hp
    | [q] =>
      rw [hl] at hp h4
      simp only [List.mem_singleton] at hp
      subst hp
      have := strEq_nil h4
      simp at this
      rw [this]; exact sg_empty _
    | a :: b :: l => rw [hl] at h3; simp at h3
  split at h
  · rename_i k10
    simp only [Bool.and_eq_true] at h
    obtain ⟨h1, h2⟩ := h
    obtain ⟨_, z2, z3⟩ := zeroB_lens h2
    obtain ⟨z4, z5, _, _, z6, _⟩ := zeroB_iff h2
    have z2 : t.methods = [] := z2
    have z3 : t.overs = [] := z3
    have z4 : t.low = 0 := z4
    have z5 : t.high = 0 := z5
    have z6 : t.opaq = ByteArray.empty := z6
    simp only [recordedB, Bool.and_eq_true, decide_eq_true_eq] at h1
    obtain ⟨b1, b2⟩ := branded_txt h1.1
    exact ⟨fun p hp => (name_sg (different_names h1.2.2 _ (List.mem_map_of_mem hp))).1, by simp [z2], by simp [z3], b1, b2, fun _ => ⟨z4, z5⟩, fun h => absurd (by omega) h, by rw [z6]; exact sg_empty _, fun _ => z6, hk⟩
  split at h
  · rename_i k12
    simp only [Bool.and_eq_true] at h
    obtain ⟨h1, h2⟩ := h
    obtain ⟨z4, z5, _, _, z6, _⟩ := zeroB_iff h2
    have z4 : t.low = 0 := z4
    have z5 : t.high = 0 := z5
    have z6 : t.opaq = ByteArray.empty := z6
    simp only [objectsB, Bool.and_eq_true] at h1
    obtain ⟨d1, d2, d3⟩ := h1
    obtain ⟨b1, b2⟩ := branded_txt d1
    simp only [objectB, Bool.and_eq_true, Bool.not_eq_true', Bool.or_eq_false_iff, List.any_eq_false] at d3
    obtain ⟨⟨c1, c2⟩, c3, c4, c5⟩ := d3
    refine ⟨fun p hp => (name_sg (different_names d2 _ (List.mem_map_of_mem hp))).1, fun m hm => ?_, fun o ho => ?_, b1, b2, fun _ => ⟨z4, z5⟩, fun h => absurd (by omega) h, by rw [z6]; exact sg_empty _, fun _ => z6, hk⟩
    · have h5 := c1 m hm
      simp only [badMethod, Bool.or_eq_true, Bool.not_eq_true', not_or, Bool.not_eq_false, Bool.and_eq_true, not_and] at h5
      obtain ⟨h6, h7⟩ := h5
      simp only [sigB, Bool.and_eq_true] at h6
      refine ⟨(name_sg (different_names c3 _ (List.mem_map_of_mem hm))).1, raises_sg h6.2, ?_⟩
      cases hp : strEq m.proc ByteArray.empty with
      | true => rw [strEq_nil hp]; exact sg_empty _
      | false => exact (symbol_sg (h7 hp)).1
    · have h5 := c2 o ho
      simp only [badOver, Bool.not_eq_true', Bool.not_eq_false] at h5
      exact ⟨(name_sg (different_names c4 _ (List.mem_map_of_mem ho))).1, (symbol_sg (by simpa using h5)).1⟩
  split at h
  · rename_i k13
    simp only [Bool.and_eq_true] at h
    obtain ⟨h1, h2⟩ := h
    obtain ⟨z1, z2, z3⟩ := zeroB_lens h2
    obtain ⟨z4, z5, z6, z7, _, _⟩ := zeroB_iff h2
    have z1 : t.parts = [] := z1
    have z2 : t.methods = [] := z2
    have z3 : t.overs = [] := z3
    have z4 : t.low = 0 := z4
    have z5 : t.high = 0 := z5
    have z6 : t.branded = false := z6
    have z7 : t.brand = ByteArray.empty := z7
    simp only [opaqueB, Bool.and_eq_true] at h1
    exact ⟨by simp [z1], by simp [z2], by simp [z3], by rw [z7]; exact sg_empty _, fun _ => z7, fun _ => ⟨z4, z5⟩, fun _ => z6, (symbol_sg h1.1).1, fun h => absurd k13 h, hk⟩
  · simp only [Bool.and_eq_true, decide_eq_true_eq] at h
    obtain ⟨h1, h2⟩ := h
    obtain ⟨z1, z2, z3⟩ := zeroB_lens h2
    obtain ⟨z4, z5, z6, z7, z8, _⟩ := zeroB_iff h2
    exact ⟨by simp [z1], by simp [z2], by simp [z3], by rw [z7]; exact sg_empty _, fun _ => z7, fun _ => ⟨z4, z5⟩, fun _ => z6, by rw [z8]; exact sg_empty _, fun _ => z8, hk⟩

/-! ### a line as entries -/
def ents (num : Int → ByteArray) (t : Ty) : List Ent :=
  t.parts.map (fun p => .part p.name.data.toList (num p.type).data.toList) ++
    (t.methods.map (fun m => .meth m.name.data.toList (m.args.map fun a => (num a).data.toList) (resultTx num m.result) (m.raises.map (·.data.toList)) m.proc.data.toList) ++
      t.overs.map (fun o => .over o.name.data.toList o.proc.data.toList))
theorem flatMap_map' {α β : Type} (f : α → β) (k : β → List UInt8) (k' : α → List UInt8) (h : ∀ x, k (f x) = k' x) : ∀ l : List α, (l.map f).flatMap k = l.flatMap k'
  | [] => rfl
  | x :: l => by rw [List.map_cons, List.flatMap_cons, List.flatMap_cons, h, flatMap_map' f k k' h l]
theorem isEmpty_data (p : ByteArray) : p.toList.isEmpty = true ↔ p.data.toList = [] := by
  rw [ByteArray.toList_eq, List.isEmpty_iff]
theorem methodTx_ent (num : Int → ByteArray) (m : Method) : entTx (.meth m.name.data.toList (m.args.map fun a => (num a).data.toList) (resultTx num m.result) (m.raises.map (·.data.toList)) m.proc.data.toList) = methodTx num m := by
  have h1 : raisesE (m.raises.map (·.data.toList)) = raisesTx m.raises := by
    unfold raisesE raisesTx joinTx
    cases m.raises <;> simp
  have h2 : procE m.proc.data.toList = procTx m.proc := by
    unfold procE procTx
    by_cases h : m.proc.data.toList = []
    · rw [if_pos h, if_pos ((isEmpty_data _).2 h)]
    · rw [if_neg h, if_neg (fun h' => h ((isEmpty_data _).1 h'))]
  have h3 : joinTx (m.args.map num) = Lib.join (m.args.map fun a => (num a).data.toList) [44] := by
    unfold joinTx; rw [List.map_map]; rfl
  show 32 :: (m.name.data.toList ++ 40 :: (Lib.join (m.args.map fun a => (num a).data.toList) [44] ++ 41 :: (resultTx num m.result ++ (raisesE (m.raises.map (·.data.toList)) ++ procE m.proc.data.toList)))) = methodTx num m
  unfold methodTx
  rw [h1, h2, h3]
  simp
theorem line_ents (num : Int → ByteArray) (t : Ty) : lineTx num t = Lib.itoa t.kind ++ (midTx t ++ (superTx num t ++ ((ents num t).flatMap entTx ++ [10]))) := by
  unfold lineTx ents
  rw [List.flatMap_append, List.flatMap_append]
  rw [flatMap_map' _ entTx (partTx num) (fun p => by simp [entTx, partTx]), flatMap_map' _ entTx (methodTx num) (fun m => methodTx_ent num m), flatMap_map' _ entTx overTx (fun o => by simp [entTx, overTx])]
  simp only [List.append_assoc]

/-- numbers of references are numerals -/
def NumOk (num : Int → ByteArray) (t : Ty) : Prop := ∀ r ∈ refsL t, (num r).data.toList ≠ [] ∧ Sg digC (num r)
theorem numB_ok (cls : Nat → Nat) (out : List Nat) (t : Ty) : NumOk (numB cls out) t := fun r _ => by
  have e : (numB cls out r).data.toList = Lib.itoa (posN cls (cls r.toNat) out : Nat) := rfl
  refine ⟨by rw [e]; exact itoa_ne _, fun c hc => ?_⟩
  rw [e] at hc
  exact itoa_digits (by omega) c hc
theorem refs_part {t : Ty} {p : Part} (h : p ∈ t.parts) : p.type ∈ refsL t := by
  unfold refsL; simp only [List.mem_append]; exact .inr (.inl (List.mem_map_of_mem h))
theorem refs_meth {t : Ty} {m : Method} (h : m ∈ t.methods) {r : Int} (hr : r ∈ refsM m) : r ∈ refsL t := by
  unfold refsL; simp only [List.mem_append]; exact .inr (.inr (List.mem_flatMap.2 ⟨m, h, hr⟩))
theorem digC_numC {c : UInt8} (h : digC c = true) : numC c = true := by unfold numC; rw [h]; rfl
theorem ents_ok {num : Int → ByteArray} {t : Ty} (ht : Txt t) (hn : NumOk num t) : ∀ e ∈ ents num t, EntOk e := by
  intro e he
  unfold ents at he
  rcases List.mem_append.1 he with he | he
  · obtain ⟨p, hp, rfl⟩ := List.mem_map.1 he
    exact ⟨ht.part p hp, (hn _ (refs_part hp)).2⟩
  rcases List.mem_append.1 he with he | he
  · obtain ⟨m, hm, rfl⟩ := List.mem_map.1 he
    obtain ⟨h1, h2, h3⟩ := ht.meth m hm
    refine ⟨h1, fun x hx => ?_, ?_, fun x hx => ?_, h3⟩
    · obtain ⟨a, ha, rfl⟩ := List.mem_map.1 hx
      exact hn a (refs_meth hm (by unfold refsM; simp [ha]))
    · unfold resultTx
      split
      · intro c hc; simp at hc; subst hc; rfl
      · rename_i h0
        exact fun c hc => digC_numC ((hn m.result (refs_meth hm (by unfold refsM; rw [if_pos (by omega)]; simp))).2 c hc)
    · obtain ⟨a, ha, rfl⟩ := List.mem_map.1 hx
      exact ⟨(h2 a ha).2, (h2 a ha).1⟩
  · obtain ⟨o, ho, rfl⟩ := List.mem_map.1 he
    exact ht.over o ho

/-! ### back from entries -/
def getP : Ent → Option (List UInt8 × List UInt8)
  | .part n r => some (n, r)
  | _ => none
def getM : Ent → Option (List UInt8 × List (List UInt8) × List UInt8 × List (List UInt8) × List UInt8)
  | .meth n a r s p => some (n, a, r, s, p)
  | _ => none
def getO : Ent → Option (List UInt8 × List UInt8)
  | .over n p => some (n, p)
  | _ => none
theorem fm_some {α β : Type} (f : α → Ent) (k : Ent → Option β) (k' : α → β) (h : ∀ x, k (f x) = some (k' x)) : ∀ l : List α, (l.map f).filterMap k = l.map k'
  | [] => rfl
  | x :: l => by rw [List.map_cons, List.filterMap_cons, h, List.map_cons, fm_some f k k' h l]
theorem fm_none {α β : Type} (f : α → Ent) (k : Ent → Option β) (h : ∀ x, k (f x) = none) : ∀ l : List α, (l.map f).filterMap k = []
  | [] => rfl
  | x :: l => by rw [List.map_cons, List.filterMap_cons, h, fm_none f k h l]
theorem ents_parts (num : Int → ByteArray) (t : Ty) : (ents num t).filterMap getP = t.parts.map fun p => (p.name.data.toList, (num p.type).data.toList) := by
  unfold ents
  rw [List.filterMap_append, List.filterMap_append, fm_some _ getP _ (fun _ => rfl), fm_none _ getP (fun _ => rfl), fm_none _ getP (fun _ => rfl)]
  simp
theorem ents_meths (num : Int → ByteArray) (t : Ty) : (ents num t).filterMap getM = t.methods.map fun m => (m.name.data.toList, (m.args.map fun a => (num a).data.toList), resultTx num m.result, m.raises.map (·.data.toList), m.proc.data.toList) := by
  unfold ents
  rw [List.filterMap_append, List.filterMap_append, fm_none _ getM (fun _ => rfl), fm_some _ getM _ (fun _ => rfl), fm_none _ getM (fun _ => rfl)]
  simp
theorem ents_overs (num : Int → ByteArray) (t : Ty) : (ents num t).filterMap getO = t.overs.map fun o => (o.name.data.toList, o.proc.data.toList) := by
  unfold ents
  rw [List.filterMap_append, List.filterMap_append, fm_none _ getO (fun _ => rfl), fm_none _ getO (fun _ => rfl), fm_some _ getO _ (fun _ => rfl)]
  simp
theorem strEq_data {a b : ByteArray} (h : a.data.toList = b.data.toList) : strEq a b = true := strEq_iff.2 (ba_ext h)
theorem map_ba {xs ys : List Int} {num num' : Int → ByteArray} (h : xs.map (fun a => (num a).data.toList) = ys.map (fun a => (num' a).data.toList)) : xs.map num = ys.map num' := by
  induction xs generalizing ys with
  | nil => cases ys with
    | nil => rfl
    | cons y ys => simp at h
  | cons x xs ih => cases ys with
    | nil => simp at h
    | cons y ys =>
      simp only [List.map_cons, List.cons.injEq] at h
      rw [List.map_cons, List.map_cons, ba_ext h.1, ih h.2]
theorem raises_back : ∀ {xs ys : List ByteArray}, xs.map (·.data.toList) = ys.map (·.data.toList) → eqF strEq xs ys = true
  | [], [], _ => rfl
  | [], y :: ys, h => by simp at h
  | x :: xs, [], h => by simp at h
  | x :: xs, y :: ys, h => by
    simp only [List.map_cons, List.cons.injEq] at h
    simp only [eqF, Bool.and_eq_true]
    exact ⟨strEq_data h.1, raises_back h.2⟩
section
variable {num num' : Int → ByteArray}
theorem parts_back : ∀ {xs ys : List Part}, (xs.map fun p => (p.name.data.toList, (num p.type).data.toList)) = (ys.map fun p => (p.name.data.toList, (num' p.type).data.toList)) → eqF partEq xs ys = true ∧ (xs.map Part.type).map num = (ys.map Part.type).map num'
  | [], [], _ => ⟨rfl, rfl⟩
  | [], y :: ys, h => by simp at h
  | x :: xs, [], h => by simp at h
  | x :: xs, y :: ys, h => by
    simp only [List.map_cons, List.cons.injEq, Prod.mk.injEq] at h
    obtain ⟨h1, h2⟩ := parts_back h.2
    refine ⟨?_, by simp only [List.map_cons, h2, ba_ext h.1.2]⟩
    simp only [eqF, Bool.and_eq_true, partEq_eq]
    exact ⟨strEq_data h.1.1, h1⟩
theorem overs_back : ∀ {xs ys : List Over}, (xs.map fun o => (o.name.data.toList, o.proc.data.toList)) = (ys.map fun o => (o.name.data.toList, o.proc.data.toList)) → eqF overEq xs ys = true
  | [], [], _ => rfl
  | [], y :: ys, h => by simp at h
  | x :: xs, [], h => by simp at h
  | x :: xs, y :: ys, h => by
    simp only [List.map_cons, List.cons.injEq, Prod.mk.injEq] at h
    simp only [eqF, Bool.and_eq_true, overEq_eq]
    exact ⟨⟨strEq_data h.1.1, strEq_data h.1.2⟩, overs_back h.2⟩
theorem result_back {a b : Int} (ha : 0 ≤ a → Sg digC (num a)) (hb : 0 ≤ b → Sg digC (num' b)) (h : resultTx num a = resultTx num' b) : decide (a < 0) = decide (b < 0) ∧ ((if 0 ≤ a then [a] else []).map num = (if 0 ≤ b then [b] else []).map num') := by
  unfold resultTx at h
  by_cases h1 : a < 0 <;> by_cases h2 : b < 0
  · rw [if_neg (by omega : ¬ 0 ≤ a), if_neg (by omega : ¬ 0 ≤ b)]; simp [h1, h2]
  · rw [if_pos h1, if_neg h2] at h
    have := hb (by omega) 45 (by rw [← h]; simp)
    exact absurd this (by decide)
  · rw [if_neg h1, if_pos h2] at h
    have := ha (by omega) 45 (by rw [h]; simp)
    exact absurd this (by decide)
  · rw [if_neg h1, if_neg h2] at h
    rw [if_pos (by omega : 0 ≤ a), if_pos (by omega : 0 ≤ b)]
    simp [h1, h2, ba_ext h]
theorem meths_back : ∀ {xs ys : List Method}, (∀ m ∈ xs, 0 ≤ m.result → Sg digC (num m.result)) → (∀ m ∈ ys, 0 ≤ m.result → Sg digC (num' m.result)) →
    (xs.map fun m => (m.name.data.toList, (m.args.map fun a => (num a).data.toList), resultTx num m.result, m.raises.map (·.data.toList), m.proc.data.toList)) = (ys.map fun m => (m.name.data.toList, (m.args.map fun a => (num' a).data.toList), resultTx num' m.result, m.raises.map (·.data.toList), m.proc.data.toList)) →
    eqF sameMethodB xs ys = true ∧ (xs.flatMap refsM).map num = (ys.flatMap refsM).map num'
  | [], [], _, _, _ => ⟨rfl, rfl⟩
  | [], y :: ys, _, _, h => by simp at h
  | x :: xs, [], _, _, h => by simp at h
  | x :: xs, y :: ys, hx, hy, h => by
    simp only [List.map_cons, List.cons.injEq, Prod.mk.injEq] at h
    obtain ⟨⟨e1, e2, e3, e4, e5⟩, h⟩ := h
    obtain ⟨h1, h2⟩ := meths_back (fun m hm => hx m (by simp [hm])) (fun m hm => hy m (by simp [hm])) h
    obtain ⟨h3, h4⟩ := result_back (hx x (by simp)) (hy y (by simp)) e3
    have e6 := map_ba e2
    refine ⟨?_, ?_⟩
    · simp only [eqF, Bool.and_eq_true]
      have := congrArg List.length e2
      simp only [List.length_map] at this
      exact ⟨sameMethodB_iff.2 ⟨ba_ext e1, ba_ext e5, this, h3, raises_back e4⟩, h1⟩
    · rw [List.flatMap_cons, List.flatMap_cons, List.map_append, List.map_append, h2]
      congr 1
      unfold refsM
      rw [List.map_append, List.map_append, e6, h4]
theorem ents_tail_brk (num : Int → ByteArray) (t : Ty) (r : List UInt8) : Brk (superTx num t ++ ((ents num t).flatMap entTx ++ 10 :: r)) := by
  unfold superTx
  split
  · exact ⟨32, _, rfl, .inl rfl⟩
  · exact ents_brk _ _
theorem mid_brk (t : Ty) {X : List UInt8} (h : Brk X) : Brk (midTx t ++ X) := by
  unfold midTx
  split
  · exact ⟨32, _, by simp; rfl, .inl rfl⟩
  split
  · split
    · exact ⟨32, _, by simp; rfl, .inl rfl⟩
    · exact ⟨32, _, by simp; rfl, .inl rfl⟩
  split
  · exact ⟨32, _, by simp; rfl, .inl rfl⟩
  · exact h
theorem mid_cut {s t : Ty} (hs : Txt s) (ht : Txt t) (hk : s.kind = t.kind) {X Y : List UInt8} (hX : Brk X) (hY : Brk Y) (h : midTx s ++ X = midTx t ++ Y) : plainEqB s t = true ∧ X = Y := by
  have fin : s.low = t.low → s.high = t.high → s.branded = t.branded → s.brand = t.brand → s.opaq = t.opaq → X = Y → plainEqB s t = true ∧ X = Y := fun h1 h2 h3 h4 h5 h6 => ⟨plainEqB_iff.2 ⟨hk, h1, h2, h3, h4, h5⟩, h6⟩
  unfold midTx at h
  rw [hk] at h
  have hlow : t.kind ≠ 3 → s.low = t.low ∧ s.high = t.high := fun h => by
    obtain ⟨a, b⟩ := hs.low (by rw [hk]; exact h)
    obtain ⟨c, d⟩ := ht.low h
    rw [a, b, c, d]; exact ⟨rfl, rfl⟩
  have hop : t.kind ≠ 13 → s.opaq = t.opaq := fun h => by rw [hs.noOpaq (by rw [hk]; exact h), ht.noOpaq h]
  have hbr : ¬ (t.kind = 9 ∨ t.kind = 11 ∨ t.kind = 10 ∨ t.kind = 12) → s.branded = t.branded ∧ s.brand = t.brand := fun h => by
    have a := hs.noBrand (by rw [hk]; exact h)
    have b := ht.noBrand h
    rw [a, b, hs.bare a, ht.bare b]; exact ⟨rfl, rfl⟩
  by_cases k3 : t.kind = 3
  · rw [if_pos k3, if_pos k3] at h
    simp only [List.cons_append, List.nil_append, List.append_assoc] at h
    injection h with _ h
    obtain ⟨e1, h⟩ := cut_eq (itoa_num _) (itoa_num _) ⟨32, _, rfl, rfl⟩ ⟨32, _, rfl, rfl⟩ h
    injection h with _ h
    obtain ⟨e2, h⟩ := cut_eq (itoa_num _) (itoa_num _) (hX.ends rfl rfl) (hY.ends rfl rfl) h
    obtain ⟨b1, b2⟩ := hbr (by omega)
    exact fin (itoa_inj e1) (itoa_inj e2) b1 b2 (hop (by omega)) h
  rw [if_neg k3, if_neg k3] at h
  obtain ⟨l1, l2⟩ := hlow k3
  by_cases k9 : t.kind = 9 ∨ t.kind = 11 ∨ t.kind = 10 ∨ t.kind = 12
  · rw [if_pos k9, if_pos k9] at h
    have ho := hop (by omega)
    cases hb1 : s.branded <;> cases hb2 : t.branded <;> rw [hb1, hb2] at h
    · simp only [if_neg (show ¬ (false = true) by simp), List.cons_append, List.nil_append] at h
      injection h with _ h
      injection h with _ h
      exact fin l1 l2 (by rw [hb1, hb2]) (by rw [hs.bare hb1, ht.bare hb2]) ho h
    · simp only [if_neg (show ¬ (false = true) by simp), if_pos rfl, List.cons_append, List.nil_append, List.append_assoc] at h
      injection h with _ h
      injection h with e _
      exact absurd e (by decide)
    · simp only [if_neg (show ¬ (false = true) by simp), if_pos rfl, List.cons_append, List.nil_append, List.append_assoc] at h
      injection h with _ h
      injection h with e _
      exact absurd e (by decide)
    · simp only [if_pos rfl, List.cons_append, List.nil_append, List.append_assoc] at h
      injection h with _ h
      injection h with _ h
      have h : s.brand.data.toList ++ 34 :: X = t.brand.data.toList ++ 34 :: Y := by simpa using h
      obtain ⟨e1, h⟩ := cut_eq hs.brand ht.brand ⟨34, _, rfl, rfl⟩ ⟨34, _, rfl, rfl⟩ h
      injection h with _ h
      exact fin l1 l2 (by rw [hb1, hb2]) (ba_ext e1) ho h
  rw [if_neg k9, if_neg k9] at h
  obtain ⟨b1, b2⟩ := hbr k9
  by_cases k13 : t.kind = 13
  · rw [if_pos k13, if_pos k13] at h
    simp only [List.cons_append, List.nil_append] at h
    injection h with _ h
    obtain ⟨e1, h⟩ := cut_eq hs.opaq ht.opaq (hX.ends rfl rfl) (hY.ends rfl rfl) h
    exact fin l1 l2 b1 b2 (ba_ext e1) h
  · rw [if_neg k13, if_neg k13] at h
    exact fin l1 l2 b1 b2 (hop k13) h
theorem line_cut {s t : Ty} (hs : Txt s) (ht : Txt t) (hn : NumOk num s) (hn' : NumOk num' t) {r r' : List UInt8} (h : lineTx num s ++ r = lineTx num' t ++ r') :
    agreeT s t = true ∧ (refsL s).map num = (refsL t).map num' ∧ r = r' := by
  rw [line_ents, line_ents] at h
  simp only [List.append_assoc, List.cons_append, List.nil_append] at h
  have b1 := ents_tail_brk num s r
  have b2 := ents_tail_brk num' t r'
  obtain ⟨e1, h⟩ := cut_eq (itoa_num _) (itoa_num _) ((mid_brk s b1).ends rfl rfl) ((mid_brk t b2).ends rfl rfl) h
  have hk := itoa_inj e1
  obtain ⟨hp, h⟩ := mid_cut hs ht hk b1 b2 h
  have hsup : (refsS s).map num = (refsS t).map num' ∧ (ents num s).flatMap entTx ++ 10 :: r = (ents num' t).flatMap entTx ++ 10 :: r' := by
    unfold superTx at h
    unfold refsS
    rw [hk] at h ⊢
    cases hc : hasSuperB t.kind with
    | false =>
      rw [hc] at h
      exact ⟨rfl, h⟩
    | true =>
      rw [hc] at h
      simp only [if_pos rfl, List.cons_append, List.nil_append] at h
      injection h with _ h
      have q1 : s.super ∈ refsL s := by unfold refsL refsS; rw [hk, hc]; simp
      have q2 : t.super ∈ refsL t := by unfold refsL refsS; rw [hc]; simp
      obtain ⟨e2, h⟩ := cut_eq (hn _ q1).2 (hn' _ q2).2 ((ents_brk _ _).ends rfl rfl) ((ents_brk _ _).ends rfl rfl) h
      exact ⟨by simp [ba_ext e2], h⟩
  obtain ⟨h1, h⟩ := hsup
  obtain ⟨he, hr⟩ := ents_cut (ents_ok hs hn) (ents_ok ht hn') h
  have g1 := congrArg (List.filterMap getP) he
  have g2 := congrArg (List.filterMap getM) he
  have g3 := congrArg (List.filterMap getO) he
  rw [ents_parts, ents_parts] at g1
  rw [ents_meths, ents_meths] at g2
  rw [ents_overs, ents_overs] at g3
  obtain ⟨p1, p2⟩ := parts_back g1
  obtain ⟨m1, m2⟩ := meths_back (fun m hm h0 => (hn _ (refs_meth hm (by unfold refsM; rw [if_pos h0]; simp))).2) (fun m hm h0 => (hn' _ (refs_meth hm (by unfold refsM; rw [if_pos h0]; simp))).2) g2
  refine ⟨agreeT_iff.2 ⟨hp, p1, m1, overs_back g3⟩, ?_, hr⟩
  unfold refsL
  rw [List.map_append, List.map_append, List.map_append, List.map_append, h1, p2, m2]
end

theorem line_ne (num : Int → ByteArray) (t : Ty) (r : List UInt8) : lineTx num t ++ r ≠ [] := by
  unfold lineTx; simp
/-- equal texts: line by line -/
theorem lines_back {g h : Graph} {num num' : Int → ByteArray} (hg : ∀ t ∈ g, Txt t) (hh : ∀ t ∈ h, Txt t) (hn : ∀ t, NumOk num t) (hn' : ∀ t, NumOk num' t) : ∀ {xs ys : List Nat}, (∀ i ∈ xs, i < g.length) → (∀ i ∈ ys, i < h.length) →
    (xs.flatMap fun i => lineTx num (getT g i)) = (ys.flatMap fun i => lineTx num' (getT h i)) →
    All2 (fun i j => i < g.length ∧ j < h.length ∧ agreeT (getT g i) (getT h j) = true ∧ (refsL (getT g i)).map num = (refsL (getT h j)).map num') xs ys
  | [], [], _, _, _ => .nil
  | [], y :: ys, _, _, h => by rw [List.flatMap_cons] at h; exact absurd h.symm (line_ne _ _ _)
  | x :: xs, [], _, _, h => by rw [List.flatMap_cons] at h; exact absurd h (line_ne _ _ _)
  | x :: xs, y :: ys, hx, hy, e => by
    rw [List.flatMap_cons, List.flatMap_cons] at e
    have h1 := hx x (by simp)
    have h2 := hy y (by simp)
    obtain ⟨a, b, c⟩ := line_cut (hg _ (getT_mem h1)) (hh _ (getT_mem h2)) (hn _) (hn' _) e
    exact .cons ⟨h1, h2, a, b⟩ (lines_back hg hh hn hn' (fun i hi => hx i (by simp [hi])) (fun i hi => hy i (by simp [hi])) c)
theorem All2.at {R : Nat → Nat → Prop} {xs ys : List Nat} (h : All2 R xs ys) {k i j : Nat} (h1 : xs[k]? = some i) (h2 : ys[k]? = some j) : R i j := by
  have := h.get k
  rw [h1, h2] at this
  exact this
/-- types of one graph whose texts are equal are the same -/
theorem same_of_text {g : Graph} (hg : WF g) {a b : Nat} (ha : a < g.length) (hb : b < g.length) (h : textG g a = textG g b) : clsG g a = clsG g b := by
  have Ia := reachG_inv hg ha
  have Ib := reachG_inv hg hb
  have hl := lines_back (fun t ht => right_txt (hg.right t ht)) (fun t ht => right_txt (hg.right t ht)) (fun t => numB_ok (clsG g) (reachG g a) t) (fun t => numB_ok (clsG g) (reachG g b) t) (fun i hi => Ia.rng i hi) (fun i hi => Ib.rng i hi) h
  have hb' := sameN_bisim hg.abs
  have G := hg.abs
  refine sameN_of_bisim G (R := fun i j => clsG g i ∈ (reachG g a).map (clsG g) ∧ clsG g j ∈ (reachG g b).map (clsG g) ∧ posN (clsG g) (clsG g i) (reachG g a) = posN (clsG g) (clsG g j) (reachG g b)) ⟨?_, ?_⟩ ha hb ?_
  · rintro i j hi hj ⟨h1, h2, h3⟩
    obtain ⟨p1, p2⟩ := posN_lt h1
    obtain ⟨q1, q2⟩ := posN_lt h2
    have e1 := List.getElem?_eq_getElem p1
    have e2 := List.getElem?_eq_getElem q1
    have c1 := p2 _ e1
    have c2 := q2 _ e2
    obtain ⟨r1, r2, r3, _⟩ := hl.at e1 (by rw [h3]; exact e2)
    have a1 := hb'.ag i _ hi r1 c1.symm
    have a2 := hb'.ag _ j r2 hj c2
    exact byF_agree.trans _ _ _ a1 (byF_agree.trans _ _ _ r3 a2)
  · rintro i j hi hj ⟨h1, h2, h3⟩
    obtain ⟨p1, p2⟩ := posN_lt h1
    obtain ⟨q1, q2⟩ := posN_lt h2
    have e1 := List.getElem?_eq_getElem p1
    have e2 := List.getElem?_eq_getElem q1
    have c1 := p2 _ e1
    have c2 := q2 _ e2
    obtain ⟨r1, r2, r3, r4⟩ := hl.at e1 (by rw [h3]; exact e2)
    have a1 := hb'.rf i _ hi r1 c1.symm
    have a2 := hb'.rf _ j r2 hj c2
    have n1 := Ia.past _ _ p1 e1
    have n2 := Ib.past _ _ q1 e2
    rw [numB_map, numB_map] at r4
    generalize (reachG g a)[posN (clsG g) (clsG g i) (reachG g a)] = x at *
    generalize (reachG g b)[posN (clsG g) (clsG g j) (reachG g b)] = y at *
    have l1 := a1.length
    have l2 := a2.length
    have l3 : (refsN g x).length = (refsN g y).length := by have := congrArg List.length r4; simpa using this
    refine forall2_of_getD (by omega) fun k hk => ?_
    have s1 := forall2_getD a1 k hk
    have s2 := forall2_getD a2 k (by omega)
    have s3 : posN (clsG g) (clsG g ((refsN g x).getD k 0)) (reachG g a) = posN (clsG g) (clsG g ((refsN g y).getD k 0)) (reachG g b) := by
      have h4 := congrArg (fun l => l[k]?) r4
      simp only [List.getElem?_map] at h4
      have k1 : k < (refsN g x).length := by omega
      have k2 : k < (refsN g y).length := by omega
      rw [List.getElem?_eq_getElem k1, List.getElem?_eq_getElem k2] at h4
      simp only [Option.map_some, Option.some.injEq, ByteArray.mk.injEq] at h4
      have h5 := congrArg Array.toList h4
      simp only [] at h5
      have h6 := itoa_inj h5
      simp only [List.getD_eq_getElem?_getD, List.getElem?_eq_getElem k1, List.getElem?_eq_getElem k2, Option.getD_some]
      omega
    have s1 : clsG g ((refsN g i).getD k 0) = clsG g ((refsN g x).getD k 0) := s1
    have s2 : clsG g ((refsN g y).getD k 0) = clsG g ((refsN g j).getD k 0) := s2
    exact ⟨by rw [s1]; exact n1 _ (getD_mem (by omega)), by rw [← s2]; exact n2 _ (getD_mem (by omega)), by rw [s1, ← s2]; exact s3⟩
  · have m1 : a ∈ reachG g a := List.mem_of_getElem? Ia.start
    have m2 : b ∈ reachG g b := List.mem_of_getElem? Ib.start
    exact ⟨List.mem_map_of_mem m1, List.mem_map_of_mem m2, by rw [posN_at Ia.nodup Ia.start, posN_at Ib.nodup Ib.start]⟩
end Go.Proofs.YtldnjnnhfeobdaaGreatDoor
/- Plain theory: the text of a right type is short. Condition: its words are below 2^20. -/
namespace Go.Proofs.YtldnjnnhfeobdaaGreatDoor
set_option linter.all false
set_option linter.unusedSimpArgs false
set_option linter.unusedVariables false

theorem joinTail_len (m : Nat) : ∀ l : List (List UInt8), (∀ x ∈ l, x.length ≤ m) → (Lib.joinTail [44] l).length ≤ l.length * (m + 1)
  | [], _ => by simp [Lib.joinTail]
  | x :: l, h => by
    rw [joinTail_more, List.length_append, List.length_append]
    have h1 := h x (by simp)
    have h2 := joinTail_len m l (fun y hy => h y (by simp [hy]))
    have e : (x :: l).length * (m + 1) = l.length * (m + 1) + (m + 1) := by rw [List.length_cons, Nat.add_mul, Nat.one_mul]
    rw [e]
    simp only [List.length_cons, List.length_nil]
    omega
theorem join_len (m : Nat) (l : List (List UInt8)) (h : ∀ x ∈ l, x.length ≤ m) : (Lib.join l [44]).length ≤ l.length * (m + 1) := by
  cases l with
  | nil => simp [Lib.join_nil]
  | cons x l =>
    rw [Lib.join_cons, List.length_append]
    have h1 := h x (by simp)
    have h2 := joinTail_len m l (fun y hy => h y (by simp [hy]))
    rw [List.length_cons, Nat.add_mul]
    omega
theorem data_size (s : ByteArray) : s.data.toList.length = s.size := by simp
theorem right_low {g : Graph} {t : Ty} (h : rightB g t = true) : (-1000000000 ≤ t.low ∧ t.low ≤ 1000000000) ∧ -1000000000 ≤ t.high ∧ t.high ≤ 1000000000 := by
  by_cases hk : t.kind = 3
  · unfold rightB at h
    rw [if_pos hk] at h
    simp only [Bool.and_eq_true, rangedB, inB, decide_eq_true_eq] at h
    omega
  · obtain ⟨h1, h2⟩ := (right_txt h).low hk
    omega
theorem itoa_small {a : Int} (h : -1000000000 ≤ a ∧ a ≤ 1000000000) : (Lib.itoa a).length ≤ 21 := Lib.itoa_length_le a (by omega) (by omega)
theorem meth_len {num : Int → ByteArray} {m : Method} (hs : MethodSmall m) (ha : m.args.length ≤ 6) (hr : m.raises.length ≤ 6) (hn : ∀ r ∈ refsM m, (num r).size ≤ 64) : (methodTx num m).length ≤ 9437184 := by
  obtain ⟨h1, h2, _, _, h5⟩ := hs
  have e1 : (joinTx (m.args.map num)).length ≤ 6 * 65 := by
    unfold joinTx
    have := join_len 64 ((m.args.map num).map (·.data.toList)) (fun x hx => by
      obtain ⟨y, hy, rfl⟩ := List.mem_map.1 hx
      obtain ⟨r, hr, rfl⟩ := List.mem_map.1 hy
      rw [data_size]
      exact hn r (by unfold refsM; simp [hr]))
    simp only [List.length_map] at this
    omega
  have e2 : (raisesTx m.raises).length ≤ 1 + 6 * 1048577 := by
    unfold raisesTx joinTx
    split
    · simp
    · have := join_len 1048576 (m.raises.map (·.data.toList)) (fun x hx => by
        obtain ⟨y, hy, rfl⟩ := List.mem_map.1 hx
        rw [data_size]
        exact h5 y hy)
      simp only [List.length_map] at this
      simp only [List.length_cons]
      omega
  have e3 : (procTx m.proc).length ≤ 1 + 1048576 := by
    unfold procTx
    split
    · simp
    · simp only [List.length_cons, data_size]; omega
  have e4 : (resultTx num m.result).length ≤ 64 := by
    unfold resultTx
    split
    · simp
    · rw [data_size]
      exact hn _ (by unfold refsM; rw [if_pos (by omega)]; simp)
  unfold methodTx
  simp only [List.length_append, List.length_cons, List.length_nil, data_size]
  omega
theorem line_len {g : Graph} {t : Ty} (hr : rightB g t = true) (hs : TySmall t) {num : Int → ByteArray} (hn : ∀ r ∈ refsL t, (num r).size ≤ 64) : (lineTx num t).length ≤ 134217728 := by
  have hf := right_fine hr
  obtain ⟨hl1, hl2⟩ := right_low hr
  have b1 := itoa_small hl1
  have b2 := itoa_small hl2
  have b3 := itoa_small (a := t.kind) (by have := hf.kind; omega)
  have e1 : (midTx t).length ≤ 1048600 := by
    have h1 := hs.brand
    have h2 := hs.opaq
    unfold midTx
    split
    · simp only [List.length_append, List.length_cons, List.length_nil]; omega
    split
    · split
      · simp only [List.length_append, List.length_cons, List.length_nil, data_size]; omega
      · simp
    split
    · simp only [List.length_append, List.length_cons, List.length_nil, data_size]; omega
    · simp
  have e2 : (superTx num t).length ≤ 65 := by
    unfold superTx
    split
    · rename_i h
      simp only [List.length_append, List.length_cons, List.length_nil, data_size]
      have := hn t.super (by unfold refsL refsS; rw [h]; simp)
      omega
    · simp
  have e3 := flatMap_le (partTx num) 1048700 t.parts (fun p hp => by
    unfold partTx
    simp only [List.length_append, List.length_cons, List.length_nil, data_size]
    have h1 := hn _ (refs_part hp)
    have h2 := hs.part p hp
    omega)
  have e4 := flatMap_le (methodTx num) 9437184 t.methods (fun m hm => meth_len (hs.method m hm) (hf.args m hm) (hf.raises m hm) (fun r hr => hn r (refs_meth hm hr)))
  have e5 := flatMap_le overTx 2097160 t.overs (fun o ho => by
    unfold overTx
    simp only [List.length_append, List.length_cons, List.length_nil, data_size]
    have := hs.over o ho
    omega)
  have h6 := hf.parts
  have h7 := hf.methods
  have h8 := hf.overs
  unfold lineTx
  simp only [List.length_append, List.length_cons, List.length_nil]
  have e6 : t.parts.length * 1048700 ≤ 8 * 1048700 := Nat.mul_le_mul_right _ h6
  have e7 : t.methods.length * 9437184 ≤ 8 * 9437184 := Nat.mul_le_mul_right _ h7
  have e8 : t.overs.length * 2097160 ≤ 8 * 2097160 := Nat.mul_le_mul_right _ h8
  omega
theorem numB_size (cls : Nat → Nat) {out : List Nat} (h : out.length ≤ 1048576) (r : Int) : (numB cls out r).size ≤ 64 := by
  have hp : ∀ (c : Nat) (l : List Nat), posN cls c l ≤ l.length := fun c l => by
    induction l with
    | nil => simp [posN]
    | cons x l ih => unfold posN; split <;> simp <;> omega
  have := hp (cls r.toNat) out
  have h2 := itoa_small (a := (posN cls (cls r.toNat) out : Nat)) (by omega)
  show (Lib.itoa _).toArray.size ≤ 64
  rw [List.size_toArray]
  omega
end Go.Proofs.YtldnjnnhfeobdaaGreatDoor
/- Contract: the text of a type. Conditions: a right graph, lengths below 2^20. -/
namespace Go.Proofs.YtldnjnnhfeobdaaGreatDoor
set_option linter.all false
set_option linter.unusedSimpArgs false
set_option linter.unusedVariables false
open Go.RowKit Go.Shelf

theorem reach_any (w : World) (gv : Value) (g : Graph) (a : Nat) (f : Nat) (cb : Array Value) (cls : Nat → Nat) (hg : Sl tyE w gv g) (hn : g.length ≤ 1048576) (hW : WF g) (ha : a < g.length) (hc : ∀ i, i < g.length → cls i < g.length) (hS : SameP w f cb cls g.length) :
    Calls Tryz.prog 87 #[.agg #[gv], .int .i64 (a : Int), .func (.func f) #[] cb] w (RetP w (ResSl intE w ((reachN cls (refsN g) (g.length + 1) 0 [a]).map fun (n : Nat) => (n : Int)))) :=
  ((callsIn_wide (n := 6)).1 (reach_in w gv g a f cb cls hg hn hW ha hc hS)).mono fun e w' ⟨v, he, hr, hx⟩ => ⟨v, he, ownsRow_sl (by rw [List.length_map, List.map_map]; exact hr), hx⟩

def numF (cls : Nat → Nat) (out : List Nat) (r : Int) : ByteArray := ⟨(Lib.itoa ((if cls r.toNat ∈ out.map cls then posN cls (cls r.toNat) out else 0 : Nat) : Int)).toArray⟩
/-- the places of classes, as a map -/
def posF (cls : Nat → Nat) (l : List Nat) : Int → Option Value := fun q => if q ∈ (l.map cls).map (fun (n : Nat) => (n : Int)) then some (.int .i64 (posN cls q.toNat l : Nat)) else none
theorem posF_nil (cls : Nat → Nat) : posF cls [] = fun _ => none := by funext q; simp [posF]
theorem posF_getD (cls : Nat → Nat) (l : List Nat) (c : Nat) : (posF cls l (c : Int)).getD (.int .i64 0) = .int .i64 ((if c ∈ l.map cls then posN cls c l else 0 : Nat) : Int) := by
  unfold posF
  by_cases h : c ∈ l.map cls
  · rw [if_pos (cast_mem.2 h), if_pos h, Int.toNat_natCast]; rfl
  · rw [if_neg (fun h' => h (cast_mem.1 h')), if_neg h]; rfl
theorem posF_put {cls : Nat → Nat} {l : List Nat} {x : Nat} (h : cls x ∉ l.map cls) : put (posF cls l) (cls x : Int) (.int .i64 (l.length : Int)) = posF cls (l ++ [x]) := by
  funext q
  unfold put posF
  by_cases e : q = (cls x : Int)
  · subst e
    rw [if_pos rfl, if_pos (cast_mem.2 (by simp)), Int.toNat_natCast, posN_snoc, if_neg h, if_pos rfl, Nat.add_zero]
  · rw [if_neg e]
    have hiff : q ∈ ((l ++ [x]).map cls).map (fun (n : Nat) => (n : Int)) ↔ q ∈ (l.map cls).map (fun (n : Nat) => (n : Int)) := by
      rw [List.map_append, List.map_append, List.mem_append, List.map_cons, List.map_nil, List.map_cons, List.map_nil, List.mem_singleton]
      exact ⟨fun h' => h'.elim id (fun e' => absurd e' e), .inl⟩
    by_cases h2 : q ∈ (l.map cls).map (fun (n : Nat) => (n : Int))
    · rw [if_pos h2, if_pos (hiff.2 h2)]
      obtain ⟨c, hc, rfl⟩ := List.mem_map.1 h2
      rw [Int.toNat_natCast, posN_snoc, if_pos hc]
    · rw [if_neg h2, if_neg (fun h' => h2 (hiff.1 h'))]
theorem posN_le (cls : Nat → Nat) (c : Nat) : ∀ l : List Nat, posN cls c l ≤ l.length
  | [] => by simp [posN]
  | x :: l => by
    have := posN_le cls c l
    unfold posN
    split <;> simp <;> omega
theorem zeroInt' (w : World) : (zeroValue 3).run Tryz.prog w = .ok (.int .i64 0) w := by kernel_rfl

section
variable {w wr wr' : World} {b3 b5 b8 mb : Nat} {gv vc : Value} {cs : List Nat} {n : Nat} {cls : Nat → Nat} {l : List Nat}
theorem class_cell {A : Option Addr} {m c : Nat} (h : Sl intE w (.slice A m c) (cs.map fun (n : Nat) => (n : Int))) (i : Nat) (hi : i < cs.length) : m = cs.length ∧ ∃ b off, A = some ⟨b, off, none⟩ ∧ w.cell? ⟨b, off + i, none⟩ = some (.int .i64 (cs.getD i 0 : Nat)) := by
  obtain ⟨A', c', e, hc⟩ := Sl.nat h
  simp only [Value.slice.injEq] at e
  obtain ⟨rfl, rfl, _⟩ := e
  exact ⟨rfl, hc i hi⟩
set_option maxRecDepth 100000 in
theorem text1_any (i : Nat) (hb : Boxed w b5 24 vc) (hs : Sl intE w vc (cs.map fun (n : Nat) => (n : Int))) (hi : i < cs.length) (hn : cs.length ≤ 1048576) :
    Calls Tryz.prog 111 #[.int .i64 i, .pointer (some ⟨b5, 0, none⟩)] w fun e w' => e = .returned (.int .i64 (cs.getD i 0 : Nat)) ∧ w' = w := by
  obtain ⟨A, c, rfl⟩ := hs.len
  rw [List.length_map] at hb hs
  obtain ⟨_, b, off, rfl, c1⟩ := class_cell hs i hi
  have c0 := hb.cell
  have l0 := cell_lt c0
  have l1 := cell_lt c1
  have i0 : (0 : Int) ≤ (i : Int) := by omega
  have i1 : (i : Int) < (cs.length : Int) := by omega
  clear hb hs
  go_enter Tryz.func111, Tryz.ntmps111
  go_wp2_with fail
  go_ret
  exact ⟨rfl, rfl⟩
theorem same111 (hb : Boxed w b5 24 vc) (hs : Sl intE w vc (cs.map fun (n : Nat) => (n : Int))) (hn : cs.length ≤ 1048576) : SameP w 111 #[.pointer (some ⟨b5, 0, none⟩)] (fun i => cs.getD i 0) cs.length :=
  ⟨enters_of Tryz.func111 (by kernel_rfl) rfl, fun i hi w' hx => text1_any i (Boxed.ext hb hx) (hs.mono hx) hi hn⟩
set_option maxRecDepth 100000 in
set_option maxHeartbeats 1000000 in
theorem text2_any (i : Nat) (hb : Boxed w b5 24 vc) (hs : Sl intE w vc (cs.map fun (n : Nat) => (n : Int))) (hi : i < cs.length) (hn : cs.length ≤ 1048576) (hm : Boxed w b8 140 (.map (some mb))) (hmp : MapF (intK Tryz.underlying3) w mb (posF (fun i => cs.getD i 0) l)) (hl : l.length ≤ 1048576) (hG : Glob w) :
    Calls Tryz.prog 112 #[.int .i64 i, .pointer (some ⟨b8, 0, none⟩), .pointer (some ⟨b5, 0, none⟩)] w (Ret w (.string (numF (fun i => cs.getD i 0) l i))) := by
  obtain ⟨A, c, rfl⟩ := hs.len
  rw [List.length_map] at hb hs
  obtain ⟨_, b, off, rfl, c1⟩ := class_cell hs i hi
  have c0 := hb.cell
  have c8 := hm.cell
  have l0 := cell_lt c0
  have l1 := cell_lt c1
  have l8 := cell_lt c8
  have i0 : (0 : Int) ≤ (i : Int) := by omega
  have i1 : (i : Int) < (cs.length : Int) := by omega
  have hpl := posN_le (fun i => cs.getD i 0)
  have hlk := (hmp.ext (Ext.refl w).drew).lookup Tryz.underlying140 (zeroInt' w.drew) ((cs.getD i 0 : Nat) : Int)
  rw [posF_getD] at hlk
  replace hlk : (Instr.lookup 140 (.map (some mb)) (.int .i64 ((cs.getD i 0 : Nat) : Int)) false).run Tryz.prog w.drew = .ok (.int .i64 ((if cs.getD i 0 ∈ l.map (fun i => cs.getD i 0) then posN (fun i => cs.getD i 0) (cs.getD i 0) l else 0 : Nat) : Int)) w.drew := hlk
  unfold numF
  rw [Int.toNat_natCast]
  have hq := hpl (cs.getD i 0) l
  have hp : ((if cs.getD i 0 ∈ l.map (fun i => cs.getD i 0) then posN (fun i => cs.getD i 0) (cs.getD i 0) l else 0 : Nat) : Int) ≤ 1048576 := by split <;> omega
  generalize (if cs.getD i 0 ∈ l.map (fun i => cs.getD i 0) then posN (fun i => cs.getD i 0) (cs.getD i 0) l else 0 : Nat) = q at *
  have hit := itoa_any (q : Int) (by omega) (by omega) w.drew (hG.mono (Ext.refl w).drew)
  have Hit := Lib.hid hit
  generalize cs.getD i 0 = ci at *
  clear hb hs hmp hm hpl hq hG hit
  go_enter Tryz.func112, Tryz.ntmps112
  go_wp2_with fail
  go_still_tail 6, (by kernel_rfl)
  change wpList _ _ _ _ _ w.drew
  go_wp2_with fail
  refine Hit.out.mono ?_
  rintro e w1 ⟨rfl, hx1⟩
  go_wp2_with fail
  go_ret
  exact ⟨rfl, (Ext.refl w).drew.trans hx1⟩
end
end Go.Proofs.YtldnjnnhfeobdaaGreatDoor
/- Contracts: text, Text, Print. Conditions: lengths below 2^20. -/
namespace Go.Proofs.YtldnjnnhfeobdaaGreatDoor
set_option linter.all false
set_option linter.unusedSimpArgs false
set_option linter.unusedVariables false
open Go.RowKit Go.Shelf

structure TSt (w : World) (b3 b5 b8 mb : Nat) (gv vc va : Value) (cs out : List Nat) (l : List Nat) (wr : World) : Prop where
  ext : Ext w wr
  gbox : Boxed wr b3 77 gv
  cbox : Boxed wr b5 24 vc
  mbox : Boxed wr b8 140 (.map (some mb))
  map : MapF (intK Tryz.underlying3) wr mb (posF (fun i => cs.getD i 0) l)
  cls : SlF (fun b => b < mb) intE wr vc (cs.map fun (n : Nat) => (n : Int))
  all : SlF (fun b => b < mb) intE wr va (out.map fun (n : Nat) => (n : Int))
  nb : w.heap.size ≤ mb
section
variable {w wr wr' : World} {b3 b5 b8 mb : Nat} {gv vc va : Value} {cs out l : List Nat}
theorem TSt.later (h : TSt w b3 b5 b8 mb gv vc va cs out l wr) (hx : Ext wr wr') : TSt w b3 b5 b8 mb gv vc va cs out l wr' :=
  ⟨h.ext.trans hx, Boxed.ext h.gbox hx, Boxed.ext h.cbox hx, Boxed.ext h.mbox hx, h.map.ext hx, h.cls.ext hx, h.all.ext hx, h.nb⟩
theorem TSt.put (h : TSt w b3 b5 b8 mb gv vc va cs out l wr) {x : Nat} (hx : cs.getD x 0 ∉ l.map (fun i => cs.getD i 0)) (hm : MapF (intK Tryz.underlying3) wr' mb (put (posF (fun i => cs.getD i 0) l) ((cs.getD x 0 : Nat) : Int) (.int .i64 (l.length : Int)))) (hg : wr.grownBy wr' (some mb)) :
    TSt w b3 b5 b8 mb gv vc va cs out (l ++ [x]) wr' := by
  have hk : ∀ b t u, Boxed wr b t u → Boxed wr' b t u := fun b t u hb => (hg.block b (Array.getElem?_eq_some_iff.1 (show wr.heap[b]? = _ from hb)).1 (fun e => Boxed.ne_map hb h.map (by injection e))).trans hb
  have hs : ∀ b, b < mb → b < wr.heap.size → wr'.heap[b]? = wr.heap[b]? := fun b hb hlt => hg.block b hlt (fun e => by injection e with e; omega)
  exact ⟨Below.grown h.ext hg h.ext.size (fun k hk => by cases hk; exact h.nb), hk _ _ _ h.gbox, hk _ _ _ h.cbox, hk _ _ _ h.mbox, by rw [← posF_put (cls := fun i => cs.getD i 0) hx]; exact hm, h.cls.mono hs (fun _ h _ => h), h.all.mono hs (fun _ h _ => h), h.nb⟩
end
theorem textG_numF (g : Graph) (h : WF g) {a : Nat} (ha : a < g.length) : textG g a = (reachG g a).flatMap fun i => lineTx (numF (clsG g) (reachG g a)) (getT g i) := by
  unfold textG
  have I := reachG_inv h ha
  have key : ∀ l : List Nat, (∀ i ∈ l, i ∈ reachG g a) → (l.flatMap fun i => lineTx (numB (clsG g) (reachG g a)) (getT g i)) = l.flatMap fun i => lineTx (numF (clsG g) (reachG g a)) (getT g i) := by
    intro l hl
    induction l with
    | nil => rfl
    | cons i l ih =>
      rw [List.flatMap_cons, List.flatMap_cons, ih (fun j hj => hl j (by simp [hj]))]
      congr 1
      refine line_congr (byF_agree.refl _) (List.map_congr_left fun r hr => ?_)
      obtain ⟨k, hk⟩ := List.mem_iff_getElem?.1 (hl i (by simp))
      have hm := I.past k i (List.getElem?_eq_some_iff.1 hk).1 hk r.toNat (by unfold refsN; exact List.mem_map_of_mem hr)
      unfold numB numF
      rw [if_pos hm]
  exact key _ (fun i hi => hi)
theorem numF_size (cls : Nat → Nat) {out : List Nat} (h : out.length ≤ 1048576) (r : Int) : (numF cls out r).size ≤ 64 := by
  have hp := posN_le cls (cls r.toNat) out
  have h2 := itoa_small (a := ((if cls r.toNat ∈ out.map cls then posN cls (cls r.toNat) out else 0 : Nat) : Int)) (by split <;> omega)
  show (Lib.itoa _).toArray.size ≤ 64
  rw [List.size_toArray]
  omega

theorem text_num {w wq : World} {b3 b5 b8 mb n : Nat} {gv vc va : Value} {cs out l : List Nat} (h : TSt w b3 b5 b8 mb gv vc va cs out l wq) (hc : cs.length = n) (hn : n ≤ 1048576) (hl : l.length ≤ 1048576) (hG : Glob wq) :
    NumP wq wq.heap.size 112 #[.pointer (some ⟨b8, 0, none⟩), .pointer (some ⟨b5, 0, none⟩)] (numF (fun i => cs.getD i 0) l) (fun i => 0 ≤ i ∧ i < n) := by
  refine ⟨enters_of Tryz.func112 (by kernel_rfl) rfl, fun i hi w' hx => ?_⟩
  obtain ⟨k, rfl⟩ := Int.eq_ofNat_of_zero_le hi.1
  have h' := h.later (show Ext wq w' from hx)
  exact text2_any k h'.cbox h'.cls.any (by omega) (by omega) h'.mbox h'.map hl (hG.mono hx)
theorem flat_len {α : Type} (f : α → List UInt8) (m : Nat) : ∀ l : List α, (∀ x ∈ l, (f x).length ≤ m) → (l.flatMap f).length ≤ l.length * m
  | [], _ => by simp
  | x :: l, h => by
    have h1 := h x (by simp)
    have h2 := flat_len f m l (fun y hy => h y (by simp [hy]))
    rw [List.flatMap_cons, List.length_append, List.length_cons, Nat.add_mul]
    omega

theorem same111n {w : World} {b5 n : Nat} {vc : Value} {cs : List Nat} (e : cs.length = n) (hb : Boxed w b5 24 vc) (hs : Sl intE w vc (cs.map fun (n : Nat) => (n : Int))) (hn : cs.length ≤ 1048576) : SameP w 111 #[.pointer (some ⟨b5, 0, none⟩)] (fun i => cs.getD i 0) n := by
  subst e; exact same111 hb hs hn

set_option maxRecDepth 100000 in
set_option maxHeartbeats 16000000 in
theorem text_any (w : World) (gv vc : Value) (g : Graph) (a : Nat) (hg : Sl tyE w gv g) (hT : Tidy g) (hW : WF g) (hG : Glob w) (ha : a < g.length) (hvc : Sl intE w vc ((classesG g).map fun (n : Nat) => (n : Int))) :
    Calls Tryz.prog 61 #[.agg #[gv], .int .i64 (a : Int), vc] w (Ret w (.string ⟨(textG g a).toArray⟩)) := by
  have hn := hT.len
  have hn4 := hW.len
  have hcl := classesG_length g hW
  have hI := reachG_inv hW ha
  have hcn : ∀ i, i < g.length → (classesG g).getD i 0 < g.length := fun i hi => clsG_lt hW hi
  have hol := hI.len (fun i hi => clsG_lt hW hi)
  rw [textG_numF g hW ha]
  have hout : reachG g a = reachN (fun i => (classesG g).getD i 0) (refsN g) (g.length + 1) 0 [a] := rfl
  have hreach := fun (w' : World) (hx : Ext w w') (hS : SameP w' 111 #[.pointer (some ⟨w.heap.size + 1, 0, none⟩)] (fun i => (classesG g).getD i 0) g.length) => reach_any w' gv g a 111 _ _ (hg.mono hx) hn hW ha hcn hS
  rw [← hout] at hreach
  change (∀ i, i < g.length → _) at hcn
  have hcf : clsG g = fun i => (classesG g).getD i 0 := rfl
  rw [hcf] at hI ⊢
  generalize reachG g a = out at *
  generalize classesG g = cs at *
  have hnd := hI.nodup
  have hrng := hI.rng
  have hlt0 : 0 < out.length := (List.getElem?_eq_some_iff.1 hI.start).1
  have hright := hW.right
  have hfine := fun i (hi : i < g.length) => hW.fine (getT_mem hi)
  have hty := hT.ty
  have hmm := @run_makeMap Tryz.prog
  have hgty := hg.ty
  obtain ⟨A, cap, rfl⟩ := hg.len
  obtain ⟨Ac, cc, ec⟩ := hvc.len
  subst ec
  rw [List.length_map] at hvc ⊢
  have Hreach := Lib.hid hreach
  have Hg := Lib.hid hg
  have Hvc := Lib.hid hvc
  have HI := Lib.hid hI
  have Hnd := Lib.hid hnd
  have Hrng := Lib.hid hrng
  have Hright := Lib.hid hright
  have Hfine := Lib.hid hfine
  have Hty := Lib.hid hty
  have Hgty := Lib.hid hgty
  have HG := Lib.hid hG
  have Hcl := Lib.hid hcl
  have Hcn := Lib.hid hcn
  clear hreach hvc hI hnd hrng hright hfine hty hgty hG hg hT hW hout hcl hcn hcf
  go_enter Tryz.func61, Tryz.ntmps61
  go_wp2_with fail
  have hx0 := ((Ext.refl w).alloc (.cells #[.slice A g.length cap] 77)).alloc (.cells #[.slice Ac cs.length cc] 24)
  have e1 := heap_alloc_self w (.cells #[.slice A g.length cap] 77)
  have e2 := heap_alloc_self (w.alloc (.cells #[.slice A g.length cap] 77)) (.cells #[.slice Ac cs.length cc] 24)
  rw [World.size_alloc] at e2
  refine (Hreach.out _ hx0 (same111n (Hcl.out) e2 (Hvc.out.mono hx0) (by rw [Hcl.out]; exact hn))).mono ?_
  rintro e w1 ⟨va, rfl, hva, hx1⟩
  obtain ⟨Aa, ca, ea⟩ := hva.any.len
  rw [List.length_map] at ea
  subst ea
  have hst : TSt w w.heap.size (w.heap.size + 1) (w1.heap.size + 1) w1.heap.size (.slice A g.length cap) (.slice Ac cs.length cc) (.slice Aa out.length ca) cs out [] ((w1.alloc (.map #[] 0)).alloc (.cells #[.map (some w1.heap.size)] 140)) := by
    have hx2 := (((Ext.refl w1).alloc (.map #[] 0)).alloc (.cells #[.map (some w1.heap.size)] 140))
    have e3 := heap_alloc_self (w1.alloc (.map #[] 0)) (.cells #[.map (some w1.heap.size)] 140)
    rw [World.size_alloc] at e3
    have hsz := hx1.size
    rw [World.size_alloc, World.size_alloc] at hsz
    refine ⟨(hx0.trans hx1).trans hx2, ?_, ?_, e3, ?_, ?_, ?_, by omega⟩
    · exact Boxed.ext (Boxed.ext (Boxed.ext e1 ((Ext.refl _).alloc _)) hx1) hx2
    · exact Boxed.ext (Boxed.ext e2 hx1) hx2
    · rw [posF_nil]; exact (MapF.made _ _).ext ((Ext.refl _).alloc _)
    · exact (SlF.mono (G := fun b => b < w1.heap.size) ((Hvc.out.mono hx0).mono hx1) (fun _ _ _ => rfl) (fun b _ hlt => hlt)).ext hx2
    · exact (SlF.mono (G := fun b => b < w1.heap.size) hva (fun _ _ _ => rfl) (fun b _ hlt => hlt)).ext hx2
  have Hst := Lib.hid hst
  clear hst hva hx1 e1 e2 hx0
  go_wp2_with fail
  generalize (w1.alloc (.map #[] 0)).alloc (.cells #[.map (some w1.heap.size)] 140) = w2 at Hst ⊢
  generalize w1.heap.size = mb at Hst ⊢
  generalize hb3 : w.heap.size = b3 at *
  go_loopw [21] (fun u wr => ∃ k : Nat, k ≤ out.length ∧ u = .int .i64 k ∧ Hid (TSt w b3 (b3 + 1) (mb + 1) mb (.slice A g.length cap) (.slice Ac cs.length cc) (.slice Aa out.length ca) cs out (out.take k) wr)) (fun u _ => out.length - (intOf u).toNat)
  case atStart => exact ⟨0, by omega, rfl, Hst⟩
  case round =>
    clear Hst
    obtain ⟨k, hk, rfl, Hst⟩ := hrel
    by_cases hlt : k < out.length
    · obtain ⟨ba, oa, rfl, ca0⟩ := (class_cell Hst.out.all.any k hlt).2
      have hx : out.getD k 0 < g.length := Hrng.out _ (by rw [List.getD_eq_getElem?_getD, List.getElem?_eq_getElem hlt]; exact List.getElem_mem hlt)
      have hsn : out.take (k + 1) = out.take k ++ [out.getD k 0] := by
        rw [List.take_add_one, List.getElem?_eq_getElem hlt, List.getD_eq_getElem?_getD, List.getElem?_eq_getElem hlt]; rfl
      have hni : cs.getD (out.getD k 0) 0 ∉ (out.take k).map (fun i => cs.getD i 0) := by
        have h := Hnd.out
        rw [← List.take_append_drop (k + 1) out, hsn, List.map_append, List.map_append] at h
        have h2 := (List.nodup_append.1 h).1
        intro hm
        exact (List.nodup_append.1 h2).2.2 _ hm _ (by simp) rfl
      have hlk : (out.take k).length = k := by rw [List.length_take]; omega
      generalize hxd : out.getD k 0 = x at *
      obtain ⟨_, bc, oc, ec, cc0⟩ := class_cell Hst.out.cls.any x (by rw [Hcl.out]; exact hx)
      subst ec
      have cm := Hst.out.mbox.cell
      have cb := Hst.out.cbox.cell
      have i0 : (0 : Int) ≤ (k : Int) := by omega
      have i1 : (k : Int) < (out.length : Int) := by omega
      have i2 : (0 : Int) ≤ (x : Int) := by omega
      have i3 : (x : Int) < (cs.length : Int) := by rw [Hcl.out]; omega
      have la := cell_lt ca0
      have lc := cell_lt cc0
      have lm := cell_lt cm
      have lb := cell_lt cb
      have hx20 : (x : Int) ≤ 1048576 := by omega
      have Hni := Lib.hid hni
      have Hsn := Lib.hid hsn
      have Hlk := Lib.hid hlk
      clear hni hsn hlk hk hx hxd
      go_wp2_with fail
      go_still_tail 6, (by kernel_rfl)
      change wpList _ _ _ _ _ wr.drew
      go_wp2_with (at_mapUpdate; refine wpList_update_F (intK Tryz.underlying3) (by rfl) _ _ _ 140 3 (by rfl) Tryz.underlying140 mb (posF (fun i => cs.getD i 0) (out.take k)) ((cs.getD x 0 : Nat) : Int) (by rfl) (by rfl) (Hst.out.map.ext (Ext.refl _).drew) ?_; intro w5 hm5 hg5)
      go_roundw
      case rel => exact ⟨k + 1, by omega, by go_num, by rw [Hsn.out]; exact Lib.hid ((Hst.out.later (Ext.refl _).drew).put Hni.out (by rw [Hlk.out]; exact hm5) hg5)⟩
      case measure => simp [intOf]; omega
    · have hkn : k = out.length := by omega
      subst hkn
      rw [List.take_length] at Hst
      clear hk hlt
      go_wp2_with fail
      have hG2 := HG.out.mono Hst.out.ext
      have hnum := text_num Hst.out Hcl.out hn (by omega) hG2
      have hwr : Wr (wr.alloc (.cells #[.pointer none, .slice none 0 0, .func (.func 112) #[] #[.pointer (some ⟨mb + 1, 0, none⟩), .pointer (some ⟨b3 + 1, 0, none⟩)]] 147)) wr.heap.size wr.heap.size (.func (.func 112) #[] #[.pointer (some ⟨mb + 1, 0, none⟩), .pointer (some ⟨b3 + 1, 0, none⟩)]) [] [] :=
        ⟨Nat.le_refl _, ⟨_, _, .inl rfl, heap_alloc_self _ _, World.ownsRow_nil _ _ _ _, by simp [Value.ownBlock]⟩, by simp⟩
      have hgw := Hg.out.mono Hst.out.ext
      obtain ⟨Ag, cg, eg, hs⟩ := hgw.ty
      simp only [Value.slice.injEq, true_and] at eg
      obtain ⟨rfl, rfl⟩ := eg
      have hline := fun (i : Nat) (hi : i < g.length) (l : List UInt8) (w' : World) (hx : Ext wr w') (hW : Wr w' wr.heap.size wr.heap.size (.func (.func 112) #[] #[.pointer (some ⟨mb + 1, 0, none⟩), .pointer (some ⟨b3 + 1, 0, none⟩)]) l []) (vp vm vo : Value) (hof : TyOf wr (getT g i) vp vm vo) (hl : l.length ≤ 60000000000) =>
        line_any wr w' wr.heap.size wr.heap.size 112 _ _ _ l [] g.length (getT g i) vp vm vo hx (Nat.le_refl _) hW hx.size (hnum.later hx) hof (Hfine.out i hi) (fun i h1 h2 => ⟨h1, h2⟩) hG2 (Hty.out _ (getT_mem hi)).1 (fun i _ => by have := numF_size (fun i => cs.getD i 0) (out := out) (by omega) i; omega)
          (by have := (right_low (Hright.out _ (getT_mem hi))).1; omega) (by have := (right_low (Hright.out _ (getT_mem hi))).2; omega) (by have := itoa_small (right_low (Hright.out _ (getT_mem hi))).1; omega) (by have := itoa_small (right_low (Hright.out _ (getT_mem hi))).2; omega)
          (by have := line_len (Hright.out _ (getT_mem hi)) (Hty.out _ (getT_mem hi)).1 (num := numF (fun i => cs.getD i 0) out) (fun r _ => numF_size _ (by omega) r); omega)
      have hlen : ∀ k, ((out.take k).flatMap fun i => lineTx (numF (fun i => cs.getD i 0) out) (getT g i)).length ≤ 53687091200 := fun k => by
        have h1 := flat_len (fun i => lineTx (numF (fun i => cs.getD i 0) out) (getT g i)) 134217728 (out.take k) (fun i hi => line_len (Hright.out _ (getT_mem (Hrng.out i (List.mem_of_mem_take hi)))) (Hty.out _ (getT_mem (Hrng.out i (List.mem_of_mem_take hi)))).1 (fun r _ => numF_size _ (by omega) r))
        have h2 : (out.take k).length ≤ 400 := by rw [List.length_take]; omega
        have h3 := Nat.mul_le_mul_right 134217728 h2
        omega
      have hne : (out.flatMap fun i => lineTx (numF (fun i => cs.getD i 0) out) (getT g i)) ≠ [] := by
        cases out with
        | nil => simp at hlt0
        | cons x l => simp [lineTx]
      have Hline := Lib.hid hline
      have Hlen := Lib.hid hlen
      have Hne := Lib.hid hne
      have Hwr := Lib.hid hwr
      have Hs := Lib.hid hs
      clear hline hlen hne hwr hs hgw hnum hG2
      obtain ⟨wo, rfl⟩ : ∃ wo : World, wo = wr := ⟨_, rfl⟩
      go_loopw [38] (fun u wr => ∃ k : Nat, k ≤ out.length ∧ u = .int .i64 k ∧ Hid (Ext wo wr) ∧ Hid (Wr wr wo.heap.size wo.heap.size (.func (.func 112) #[] #[.pointer (some ⟨mb + 1, 0, none⟩), .pointer (some ⟨b3 + 1, 0, none⟩)]) ((out.take k).flatMap fun i => lineTx (numF (fun i => cs.getD i 0) out) (getT g i)) [])) (fun u _ => out.length - (intOf u).toNat)
      case atStart => exact ⟨0, by omega, rfl, Lib.hid ((Ext.refl wo).alloc _), Hwr⟩
      case round =>
        clear Hwr
        obtain ⟨k, hk, rfl, Hx, Hw⟩ := hrel
        by_cases hlt : k < out.length
        · obtain ⟨ba, oa, rfl, ca0⟩ := (class_cell (Hst.out.later Hx.out).all.any k hlt).2
          have hx : out.getD k 0 < g.length := Hrng.out _ (by rw [List.getD_eq_getElem?_getD, List.getElem?_eq_getElem hlt]; exact List.getElem_mem hlt)
          have hsn : out.take (k + 1) = out.take k ++ [out.getD k 0] := by
            rw [List.take_add_one, List.getElem?_eq_getElem hlt, List.getD_eq_getElem?_getD, List.getElem?_eq_getElem hlt]; rfl
          generalize hxd : out.getD k 0 = x at *
          obtain ⟨b, off, vp, vm, vo, rfl, hat, hof⟩ := Hs.out x hx
          rw [← getT_lt hx] at hat hof
          have hli := Hline.out x hx _ wr Hx.out Hw.out vp vm vo hof (by have := Hlen.out k; omega)
          unfold tyV at hli
          have Hli := Lib.hid hli
          obtain ⟨d0, d1, d2, d3, d4, d5, d6, d7, d8, d9⟩ := hat.mono Hx.out
          have cg := (Hst.out.later Hx.out).gbox.cell
          have i0 : (0 : Int) ≤ (k : Int) := by omega
          have i1 : (k : Int) < (out.length : Int) := by omega
          have i2 : (0 : Int) ≤ (x : Int) := by omega
          have i3 : (x : Int) < (g.length : Int) := by omega
          have la := cell_lt ca0
          have ld := cell_lt d0
          have lg := cell_lt cg
          have Hsn := Lib.hid hsn
          have Hxw := Lib.hid hx
          clear hsn hx hxd hof hat hli hk
          generalize htx : getT g x = t at *
          have Htx := Lib.hid htx
          clear htx
          go_wp2_with fail
          refine Hli.out.mono ?_
          rintro e w9 ⟨rfl, hp⟩
          go_wp2_with fail
          go_roundw
          case rel => exact ⟨k + 1, by omega, by go_num, Lib.hid (Below.trans (B := wo.heap.size) Hx.out hp.2.1), by rw [Hsn.out, List.flatMap_append, List.flatMap_cons, List.flatMap_nil, List.append_nil, Htx.out]; exact Lib.hid hp.1⟩
          case measure => simp [intOf]; omega
        · have hkn : k = out.length := by omega
          subst hkn
          rw [List.take_length] at Hw
          have hstr := string_any wr wo.heap.size wo.heap.size _ _ [] Hw.out Hne.out rfl
          have Hstr := Lib.hid hstr
          have hwlt := Hw.out.lt
          clear hk hlt hstr
          go_wp2_with fail
          refine Hstr.out.mono ?_
          rintro e w9 ⟨rfl, hb⟩
          go_wp2_with fail
          go_ret
          exact ⟨rfl, Hst.out.ext.trans (Below.trans (B := wo.heap.size) Hx.out hb)⟩
end Go.Proofs.YtldnjnnhfeobdaaGreatDoor
/- Contracts: Text, Print. Conditions: a tidy graph; for Print a text below 2^20. -/
namespace Go.Proofs.YtldnjnnhfeobdaaGreatDoor
set_option linter.all false
set_option linter.unusedSimpArgs false
set_option linter.unusedVariables false
open Go.RowKit Go.Shelf

def textS (g : Graph) (a : Int) : ByteArray := if errG g [a] = 0 then ⟨(textG g a.toNat).toArray⟩ else ⟨#[]⟩
set_option maxRecDepth 100000 in
set_option maxHeartbeats 4000000 in
theorem Text_any (w : World) (gv : Value) (g : Graph) (a : Int) (hg : Sl tyE w gv g) (hT : Tidy g) (hG : Glob w) :
    Calls Tryz.prog 21 #[gv, .int .i64 a] w (Ret w (.tuple #[.string (textS g a), .int .i64 (errG g [a])])) := by
  have hop := opened_any (w.alloc (.cells #[.int .i64 a] 3)) gv _ g [a] (hg.mono ((Ext.refl w).alloc _)) hT (hG.mono ((Ext.refl w).alloc _)) (lit_ints w [a] 1 rfl) (by simp)
  have hcl := fun (w' : World) (hx : Ext w w') (hW : WF g) => classes_any w' gv g (hg.mono hx) hT hW
  have htx := fun (w' : World) (vc : Value) (i : Nat) (hx : Ext w w') (hW : WF g) (hi : i < g.length) (hvc : Sl intE w' vc ((classesG g).map fun (n : Nat) => (n : Int))) => text_any w' gv vc g i (hg.mono hx) hT hW (hG.mono hx) hi hvc
  have hn := hT.len
  obtain ⟨A, cap, rfl⟩ := hg.len
  unfold textS
  by_cases h0 : errG g [a] = 0
  · rw [if_pos h0]
    rw [h0] at hop ⊢
    obtain ⟨hW, hab⟩ := errG_zero h0
    obtain ⟨a0, a1⟩ := hab a (by simp)
    obtain ⟨i, rfl⟩ := Int.eq_ofNat_of_zero_le a0
    have hi : i < g.length := by omega
    rw [Int.toNat_natCast]
    have hcl := fun w' hx => hcl w' hx hW
    have htx := fun w' vc hx => htx w' vc i hx hW hi
    generalize textG g i = tx at *
    have Hop := Lib.hid hop
    have Hcl := Lib.hid hcl
    have Htx := Lib.hid htx
    clear hop hcl htx hg hG hT h0 hab hW
    go_enter Tryz.func21, Tryz.ntmps21
    go_wp2_with fail
    refine Hop.out.mono ?_
    rintro e w1 ⟨rfl, hx1⟩
    have Hx1 := Lib.hid ((((Ext.refl w).alloc (.cells #[.int .i64 i] 3)).trans hx1).alloc (.cells #[.slice A g.length cap] 77))
    have c1 := heap_cell (heap_alloc_self w1 (.cells #[.slice A g.length cap] 77)) 0 _ rfl
    clear hx1
    go_wp2_with fail
    generalize hw2 : w1.alloc (.cells #[.slice A g.length cap] 77) = w2 at *
    generalize w1.heap.size = b6 at *
    clear hw2
    have hS : ∀ w', Ext w2 w' → w'.cell? ⟨b6, 0, none⟩ = some (.slice A g.length cap) := fun w' hx => hx.cell c1
    have HS := Lib.hid hS
    clear hS c1
    go_region_held3 (fun w' => w'.cell? ⟨b6, 0, none⟩ = some (.slice A g.length cap)) (first | exact HS.out _ (Ext.refl _).drew | exact HS.out _ hxa | exact HS.out _ hxb) (first | (go_at_call 60; refine (Hcl.out _ (Hx1.out.trans (Ext.refl _).drew)).mono ?_; rintro e wa ⟨va, rfl, hva, hxa0⟩; have hxa := (Ext.refl w2).drew.trans hxa0) | (go_at_call 61; refine (Htx.out _ _ (Hx1.out.trans hxa) hva.any).mono ?_; rintro e wb ⟨rfl, hxb0⟩; have hxb := hxa.trans hxb0))
    all_goals (go_wp2_with fail; go_ret2; exact ⟨rfl, Hx1.out.trans hxb⟩)
  · rw [if_neg h0]
    have hne : (errG g [a] != 0) = true := by simpa using h0
    generalize errG g [a] = er at hop hne ⊢
    have Hop := Lib.hid hop
    clear hop hcl htx hg hG hT h0
    go_enter Tryz.func21, Tryz.ntmps21
    go_wp2_with fail
    refine Hop.out.mono ?_
    rintro e w1 ⟨rfl, hx1⟩
    go_wp2_with fail
    go_ret2
    exact ⟨rfl, (((Ext.refl w).alloc _).trans hx1).alloc _⟩
set_option maxRecDepth 100000 in
set_option maxHeartbeats 4000000 in
theorem Print_any (w : World) (gv : Value) (g : Graph) (a : Int) (hg : Sl tyE w gv g) (hT : Tidy g) (hG : Glob w) (hs : (textS g a).size ≤ 1048576) :
    Calls Tryz.prog 47 #[gv, .int .i64 a] w (Ret w (.tuple #[.string (if errG g [a] = 0 then digestB (textS g a) else ⟨#[]⟩), .int .i64 (errG g [a])])) := by
  have htx := Text_any w gv g a hg hT hG
  have hdg := fun w' => digest_any (textS g a) w' hs
  obtain ⟨A, cap, rfl⟩ := hg.len
  generalize textS g a = s at *
  have Htx := Lib.hid htx
  have Hdg := Lib.hid hdg
  clear hdg hs hT hG hg
  by_cases h0 : errG g [a] = 0
  · rw [if_pos h0]
    rw [h0] at htx ⊢
    have Htx := Lib.hid htx
    clear htx h0
    go_enter Tryz.func47, Tryz.ntmps47
    go_wp2_with fail
    refine Htx.out.mono ?_
    rintro e w1 ⟨rfl, hx1⟩
    go_wp2_with fail
    refine (Hdg.out _).mono ?_
    rintro e w2 ⟨rfl, hx2⟩
    go_wp2_with fail
    go_ret2
    exact ⟨rfl, hx1.trans hx2⟩
  · rw [if_neg h0]
    have hne : (errG g [a] != 0) = true := by simpa using h0
    generalize errG g [a] = er at htx hne ⊢
    have Htx := Lib.hid htx
    clear htx h0
    go_enter Tryz.func47, Tryz.ntmps47
    go_wp2_with fail
    refine Htx.out.mono ?_
    rintro e w1 ⟨rfl, hx1⟩
    go_wp2_with fail
    go_ret2
    exact ⟨rfl, hx1⟩
end Go.Proofs.YtldnjnnhfeobdaaGreatDoor
/- Contract: light, of the law. Condition: lengths below 2^20. -/
namespace Go.Proofs.YtldnjnnhfeobdaaGreatDoor
set_option linter.all false
set_option linter.unusedSimpArgs false
set_option linter.unusedVariables false
open Go.RowKit Go.Shelf

def methBigP (m : Method) : Prop := 8 < m.args.length ∨ 8 < m.raises.length ∨ 40 < m.name.size ∨ 40 < m.proc.size
def tyBigP (t : Ty) : Prop := 10 < t.parts.length ∨ 10 < t.methods.length ∨ 10 < t.overs.length ∨ 40 < t.brand.size ∨ 40 < t.opaq.size
instance (m : Method) : Decidable (methBigP m) := by unfold methBigP; infer_instance
instance (t : Ty) : Decidable (tyBigP t) := by unfold tyBigP; infer_instance
def lightP (t : Ty) : Prop := ¬ tyBigP t ∧ ∀ m ∈ t.methods, ¬ methBigP m
instance (t : Ty) : Decidable (lightP t) := by unfold lightP; infer_instance
def lightG (g : Graph) : Bool := decide (∀ t ∈ g.take 410, lightP t) && (decide (g.length ≤ 24) || (decide (400 < g.length) && decide (g.length ≤ 403)))
theorem light_bad {g : Graph} {k : Nat} (hk : k < g.length) (h4 : k < 410) (h : ¬ lightP (getT g k)) : lightG g = false := by
  unfold lightG
  rw [decide_eq_false, Bool.false_and]
  intro hall
  refine h (hall _ ?_)
  rw [getT_lt hk]
  exact List.mem_iff_getElem.2 ⟨k, by rw [List.length_take]; omega, by simp⟩
theorem light_good {g : Graph} (h : ∀ k, k < g.length → k < 410 → lightP (getT g k)) : lightG g = (decide (g.length ≤ 24) || (decide (400 < g.length) && decide (g.length ≤ 403))) := by
  unfold lightG
  rw [decide_eq_true, Bool.true_and]
  intro t ht
  obtain ⟨k, hk, rfl⟩ := List.mem_iff_getElem.1 ht
  rw [List.length_take] at hk
  rw [List.getElem_take, ← getT_lt (by omega)]
  exact h k (by omega) (by omega)

set_option maxRecDepth 100000 in
set_option maxHeartbeats 16000000 in
theorem light_any (w : World) (gv : Value) (g : Graph) (hg : Sl tyE w gv g) (hT : Tidy g) :
    Calls Tryz.prog 13 #[gv] w (Ret w (.bool (lightG g))) := by
  have hn := hT.len
  obtain ⟨A, cap, rfl, hs⟩ := hg.ty
  have hty := hT.ty
  have Hs := Lib.hid hs
  have Hty := Lib.hid hty
  clear hs hg hT hty
  go_enter Tryz.func13, Tryz.ntmps13
  go_wp2_with fail
  obtain ⟨wo, rfl⟩ : ∃ wo : World, wo = w := ⟨_, rfl⟩
  go_loopw [3] (fun u wr => ∃ k : Nat, k ≤ g.length ∧ k ≤ 410 ∧ u = .int .i64 k ∧ Hid (Ext wo wr) ∧ Hid (∀ j, j < g.length → j < 410 → j < k → lightP (getT g j))) (fun u _ => g.length - (intOf u).toNat)
  case atStart => exact ⟨0, by omega, by omega, rfl, Lib.hid (Ext.refl _), Lib.hid (fun j _ _ h => by omega)⟩
  case round =>
    obtain ⟨k, hk, hk4, rfl, Hx, Hall⟩ := hrel
    by_cases hlt : k < g.length ∧ k < 410
    · obtain ⟨hlt, hlt4⟩ := hlt
      obtain ⟨b, off, vp, vm, vo, rfl, hat, hof⟩ := Hs.out k hlt
      rw [← getT_lt hlt] at hat hof
      have hts := (Hty.out _ (getT_mem hlt)).1
      have hbad := light_bad (k := k) hlt hlt4
      have hnext := fun (h : lightP (getT g k)) j (hj : j < g.length) (hj4 : j < 410) (hjk : j < k + 1) => if e : j = k then e ▸ h else Hall.out j hj hj4 (by omega)
      generalize getT g k = t at *
      obtain ⟨A1, c1, e1⟩ := hof.parts.len
      obtain ⟨A2, c2, e2, hmt⟩ := hof.methods.method
      obtain ⟨A3, c3, e3⟩ := hof.overs.len
      subst e1 e2 e3
      obtain ⟨d0, d1, d2, d3, d4, d5, d6, d7, d8, d9⟩ := hat.mono Hx.out
      have i0 : (0 : Int) ≤ (k : Int) := by omega
      have i1 : (k : Int) < (g.length : Int) := by omega
      have i2 : (k : Int) < 410 := by omega
      have ld := cell_lt d0
      have hp1 := hts.parts
      have hp2 := hts.methods
      have hp3 := hts.overs
      have hp4 := hts.brand
      have hp5 := hts.opaq
      have Hms := Lib.hid hts.method
      have Hmt := Lib.hid hmt
      have Hbad := Lib.hid hbad
      have Hnext := Lib.hid hnext
      have hcases : (10 < t.parts.length) ∨ (¬ 10 < t.parts.length ∧ 10 < t.methods.length) ∨ (¬ 10 < t.parts.length ∧ ¬ 10 < t.methods.length ∧ 10 < t.overs.length) ∨ (¬ 10 < t.parts.length ∧ ¬ 10 < t.methods.length ∧ ¬ 10 < t.overs.length ∧ 40 < t.brand.size) ∨ (¬ 10 < t.parts.length ∧ ¬ 10 < t.methods.length ∧ ¬ 10 < t.overs.length ∧ ¬ 40 < t.brand.size ∧ 40 < t.opaq.size) ∨ (¬ 10 < t.parts.length ∧ ¬ 10 < t.methods.length ∧ ¬ 10 < t.overs.length ∧ ¬ 40 < t.brand.size ∧ ¬ 40 < t.opaq.size) := by omega
      clear hof hat hts hbad hnext hmt hk hk4
      rcases hcases with h1 | ⟨h1, h2⟩ | ⟨h1, h2, h3⟩ | ⟨h1, h2, h3, h4⟩ | ⟨h1, h2, h3, h4, h5⟩ | ⟨h1, h2, h3, h4, h5⟩
      case inl => 
        have q1 : (10 : Int) < (t.parts.length : Int) := by omega
        have hb : lightG g = false := Hbad.out (fun h => h.1 (by unfold tyBigP; omega))
        rw [hb]
        go_wp2_with fail
        go_ret
        exact ⟨rfl, Hx.out.alloc _⟩
      case inr.inl => 
        have q1 : ¬ (10 : Int) < (t.parts.length : Int) := by omega
        have q2 : (10 : Int) < (t.methods.length : Int) := by omega
        have hb : lightG g = false := Hbad.out (fun h => h.1 (by unfold tyBigP; omega))
        rw [hb]
        go_wp2_with fail
        go_ret
        exact ⟨rfl, Hx.out.alloc _⟩
      case inr.inr.inl => 
        have q1 : ¬ (10 : Int) < (t.parts.length : Int) := by omega
        have q2 : ¬ (10 : Int) < (t.methods.length : Int) := by omega
        have q3 : (10 : Int) < (t.overs.length : Int) := by omega
        have hb : lightG g = false := Hbad.out (fun h => h.1 (by unfold tyBigP; omega))
        rw [hb]
        go_wp2_with fail
        go_ret
        exact ⟨rfl, Hx.out.alloc _⟩
      case inr.inr.inr.inl => 
        have q1 : ¬ (10 : Int) < (t.parts.length : Int) := by omega
        have q2 : ¬ (10 : Int) < (t.methods.length : Int) := by omega
        have q3 : ¬ (10 : Int) < (t.overs.length : Int) := by omega
        have q4 : (40 : Int) < (t.brand.size : Int) := by omega
        have hb : lightG g = false := Hbad.out (fun h => h.1 (by unfold tyBigP; omega))
        rw [hb]
        go_wp2_with fail
        go_ret
        exact ⟨rfl, Hx.out.alloc _⟩
      case inr.inr.inr.inr.inl => 
        have q1 : ¬ (10 : Int) < (t.parts.length : Int) := by omega
        have q2 : ¬ (10 : Int) < (t.methods.length : Int) := by omega
        have q3 : ¬ (10 : Int) < (t.overs.length : Int) := by omega
        have q4 : ¬ (40 : Int) < (t.brand.size : Int) := by omega
        have q5 : (40 : Int) < (t.opaq.size : Int) := by omega
        have hb : lightG g = false := Hbad.out (fun h => h.1 (by unfold tyBigP; omega))
        rw [hb]
        go_wp2_with fail
        go_ret
        exact ⟨rfl, Hx.out.alloc _⟩
      case inr.inr.inr.inr.inr => 
        have q1 : ¬ (10 : Int) < (t.parts.length : Int) := by omega
        have q2 : ¬ (10 : Int) < (t.methods.length : Int) := by omega
        have q3 : ¬ (10 : Int) < (t.overs.length : Int) := by omega
        have q4 : ¬ (40 : Int) < (t.brand.size : Int) := by omega
        have q5 : ¬ (40 : Int) < (t.opaq.size : Int) := by omega
        have Hnb : Hid (¬ tyBigP t) := Lib.hid (by unfold tyBigP; omega)
        have hbox := heap_alloc_self wr (.cells #[.int .u8 t.kind, .int .i64 t.low, .int .i64 t.high, .bool t.branded, .string t.brand, .string t.opaq, .int .i64 t.super, .slice A1 t.parts.length c1, .slice A2 t.methods.length c2, .slice A3 t.overs.length c3] 42)
        have Hx1 := Lib.hid (Hx.out.alloc (.cells #[.int .u8 t.kind, .int .i64 t.low, .int .i64 t.high, .bool t.branded, .string t.brand, .string t.opaq, .int .i64 t.super, .slice A1 t.parts.length c1, .slice A2 t.methods.length c2, .slice A3 t.overs.length c3] 42))
        have cm := heap_cell hbox 8 _ rfl
        have Hcm := Lib.hid cm
        clear hbox h1 h2 h3 h4 h5 cm
        go_wp2_with fail
        generalize (wr.alloc (.cells #[.int .u8 t.kind, .int .i64 t.low, .int .i64 t.high, .bool t.branded, .string t.brand, .string t.opaq, .int .i64 t.super, .slice A1 t.parts.length c1, .slice A2 t.methods.length c2, .slice A3 t.overs.length c3] 42)) = w1 at *
        generalize wr.heap.size = b4 at *
        clear d0 d1 d2 d3 d4 d5 d6 d7 d8 d9 ld Hx
        go_loopw [5] (fun u wr => ∃ j : Nat, j ≤ t.methods.length ∧ u = .int .i64 j ∧ wr = w1 ∧ Hid (∀ i (hi : i < t.methods.length), i < j → ¬ methBigP t.methods[i])) (fun u _ => t.methods.length - (intOf u).toNat)
        case atStart => exact ⟨0, by omega, rfl, rfl, Lib.hid (fun i _ h => by omega)⟩
        case round =>
          obtain ⟨j, hj, rfl, rfl, Hmb⟩ := hrel
          by_cases hjl : j < t.methods.length
          · obtain ⟨mb, mo, va, vr, rfl, ha, hr, m0, m1, m2, m3, m4⟩ := Hmt.out j hjl
            have hmm := Hms.out _ (List.getElem_mem hjl)
            have hbm : methBigP t.methods[j] → ¬ lightP t := fun h hl => hl.2 _ (List.getElem_mem hjl) h
            have hnm := fun (h : ¬ methBigP t.methods[j]) i (hi : i < t.methods.length) (hij : i < j + 1) => if e : i = j then by subst e; exact h else Hmb.out i hi (by omega)
            generalize t.methods[j] = m at *
            obtain ⟨Aa, ca, ea⟩ := ha.len
            obtain ⟨Ar, cr, er⟩ := hr.len
            subst ea er
            replace m0 := Hx1.out.cell m0
            replace m1 := Hx1.out.cell m1
            replace m2 := Hx1.out.cell m2
            replace m3 := Hx1.out.cell m3
            replace m4 := Hx1.out.cell m4
            have cm := Hcm.out
            have lm := cell_lt m0
            have lb := cell_lt cm
            have j0 : (0 : Int) ≤ (j : Int) := by omega
            have j1 : (j : Int) < (t.methods.length : Int) := by omega
            obtain ⟨hz1, hz2, hz3, hz4, _⟩ := hmm
            have Hbm := Lib.hid hbm
            have Hnm := Lib.hid hnm
            have hcases : (8 < m.args.length) ∨ (¬ 8 < m.args.length ∧ 8 < m.raises.length) ∨ (¬ 8 < m.args.length ∧ ¬ 8 < m.raises.length ∧ 40 < m.name.size) ∨ (¬ 8 < m.args.length ∧ ¬ 8 < m.raises.length ∧ ¬ 40 < m.name.size ∧ 40 < m.proc.size) ∨ (¬ 8 < m.args.length ∧ ¬ 8 < m.raises.length ∧ ¬ 40 < m.name.size ∧ ¬ 40 < m.proc.size) := by omega
            clear hbm hnm ha hr hj
            rcases hcases with h1 | ⟨h1, h2⟩ | ⟨h1, h2, h3⟩ | ⟨h1, h2, h3, h4⟩ | ⟨h1, h2, h3, h4⟩
            case inl =>
              have r1 : (8 : Int) < (m.args.length : Int) := by omega
              have hb : lightG g = false := Hbad.out (Hbm.out (by unfold methBigP; omega))
              go_wp2_with fail
              go_ret
              first | exact ⟨rfl, Hx1.out⟩ | exact (show Ret wo (.bool (lightG g)) _ _ by rw [hb]; exact ⟨rfl, Hx1.out⟩)
            case inr.inl =>
              have r1 : ¬ (8 : Int) < (m.args.length : Int) := by omega
              have r2 : (8 : Int) < (m.raises.length : Int) := by omega
              have hb : lightG g = false := Hbad.out (Hbm.out (by unfold methBigP; omega))
              go_wp2_with fail
              go_ret
              first | exact ⟨rfl, Hx1.out⟩ | exact (show Ret wo (.bool (lightG g)) _ _ by rw [hb]; exact ⟨rfl, Hx1.out⟩)
            case inr.inr.inl =>
              have r1 : ¬ (8 : Int) < (m.args.length : Int) := by omega
              have r2 : ¬ (8 : Int) < (m.raises.length : Int) := by omega
              have r3 : (40 : Int) < (m.name.size : Int) := by omega
              have hb : lightG g = false := Hbad.out (Hbm.out (by unfold methBigP; omega))
              go_wp2_with fail
              go_ret
              first | exact ⟨rfl, Hx1.out⟩ | exact (show Ret wo (.bool (lightG g)) _ _ by rw [hb]; exact ⟨rfl, Hx1.out⟩)
            case inr.inr.inr.inl =>
              have r1 : ¬ (8 : Int) < (m.args.length : Int) := by omega
              have r2 : ¬ (8 : Int) < (m.raises.length : Int) := by omega
              have r3 : ¬ (40 : Int) < (m.name.size : Int) := by omega
              have r4 : (40 : Int) < (m.proc.size : Int) := by omega
              have hb : lightG g = false := Hbad.out (Hbm.out (by unfold methBigP; omega))
              go_wp2_with fail
              go_ret
              first | exact ⟨rfl, Hx1.out⟩ | exact (show Ret wo (.bool (lightG g)) _ _ by rw [hb]; exact ⟨rfl, Hx1.out⟩)
            case inr.inr.inr.inr =>
              have r1 : ¬ (8 : Int) < (m.args.length : Int) := by omega
              have r2 : ¬ (8 : Int) < (m.raises.length : Int) := by omega
              have r3 : ¬ (40 : Int) < (m.name.size : Int) := by omega
              have r4 : ¬ (40 : Int) < (m.proc.size : Int) := by omega
              have hnb : ¬ methBigP m := by unfold methBigP; omega
              go_wp2_with fail
              go_roundw
              case rel => exact ⟨j + 1, by omega, by go_num, trivial, Lib.hid (Hnm.out hnb)⟩
              case measure => simp [intOf]; omega
          · have hjn : j = t.methods.length := by omega
            subst hjn
            have cm := Hcm.out
            have lb := cell_lt cm
            have hlp : lightP t := ⟨Hnb.out, fun m hm => by obtain ⟨i, hi, rfl⟩ := List.mem_iff_getElem.1 hm; exact Hmb.out i hi hi⟩
            clear hj hjl
            go_wp2_with fail
            go_roundw
            case rel => exact ⟨k + 1, by omega, by omega, by go_num, Hx1, Lib.hid (Hnext.out hlp)⟩
            case measure => simp [intOf]; omega
    · have hall := light_good (g := g) (fun j hj hj4 => Hall.out j hj hj4 (by omega))
      have hcase : (¬ k < g.length ∧ g.length ≤ 24) ∨ (¬ k < g.length ∧ ¬ g.length ≤ 24 ∧ g.length ≤ 400) ∨ (¬ k < g.length ∧ ¬ g.length ≤ 24 ∧ ¬ g.length ≤ 400 ∧ g.length ≤ 403) ∨ (¬ k < g.length ∧ ¬ g.length ≤ 24 ∧ ¬ g.length ≤ 400 ∧ ¬ g.length ≤ 403) ∨ (k < g.length ∧ ¬ g.length ≤ 24 ∧ ¬ g.length ≤ 400 ∧ ¬ g.length ≤ 403 ∧ ¬ k < 410) := by omega
      clear hlt Hall
      rcases hcase with ⟨h1, h2⟩ | ⟨h1, h2, h3⟩ | ⟨h1, h2, h3, h4⟩ | ⟨h1, h2, h3, h4⟩ | ⟨h1, h2, h3, h4, h5⟩
      case inl =>
        have s1 : ¬ (k : Int) < (g.length : Int) := by omega
        have s2 : (g.length : Int) ≤ 24 := by omega
        have hv : lightG g = true := by
          rw [hall]; simp; omega
        rw [hv]
        clear hall
        go_wp2_with fail
        go_ret
        exact ⟨rfl, Hx.out⟩
      case inr.inl =>
        have s1 : ¬ (k : Int) < (g.length : Int) := by omega
        have s2 : ¬ (g.length : Int) ≤ 24 := by omega
        have s3 : ¬ (400 : Int) < (g.length : Int) := by omega
        have hv : lightG g = false := by
          rw [hall]; simp; omega
        rw [hv]
        clear hall
        go_wp2_with fail
        go_ret
        exact ⟨rfl, Hx.out⟩
      case inr.inr.inl =>
        have s1 : ¬ (k : Int) < (g.length : Int) := by omega
        have s2 : ¬ (g.length : Int) ≤ 24 := by omega
        have s3 : (400 : Int) < (g.length : Int) := by omega
        have s4 : (g.length : Int) ≤ 403 := by omega
        have hv : lightG g = true := by
          rw [hall]; simp; omega
        rw [hv]
        clear hall
        go_wp2_with fail
        go_ret
        exact ⟨rfl, Hx.out⟩
      case inr.inr.inr.inl =>
        have s1 : ¬ (k : Int) < (g.length : Int) := by omega
        have s2 : ¬ (g.length : Int) ≤ 24 := by omega
        have s3 : (400 : Int) < (g.length : Int) := by omega
        have s4 : ¬ (g.length : Int) ≤ 403 := by omega
        have hv : lightG g = false := by
          rw [hall]; simp; omega
        rw [hv]
        clear hall
        go_wp2_with fail
        go_ret
        exact ⟨rfl, Hx.out⟩
      case inr.inr.inr.inr =>
        have s1 : (k : Int) < (g.length : Int) := by omega
        have s5 : ¬ (k : Int) < 410 := by omega
        have s2 : ¬ (g.length : Int) ≤ 24 := by omega
        have s3 : (400 : Int) < (g.length : Int) := by omega
        have s4 : ¬ (g.length : Int) ≤ 403 := by omega
        have hv : lightG g = false := by
          rw [hall]; simp; omega
        rw [hv]
        clear hall
        go_wp2_with fail
        go_ret
        exact ⟨rfl, Hx.out⟩
end Go.Proofs.YtldnjnnhfeobdaaGreatDoor
/- Pairs of ints as keys; a queue of the call's own: a slice that is appended to behind and cut in front. No condition. -/
namespace Go.Proofs.YtldnjnnhfeobdaaGreatDoor
set_option linter.all false
set_option linter.unusedSimpArgs false
set_option linter.unusedVariables false
open Go.RowKit Go.Shelf

def pairV (p : Int × Int) : Value := .agg #[.int .i64 p.1, .int .i64 p.2]
theorem pairV_inj {p q : Int × Int} (h : pairV p = pairV q) : p = q := by
  obtain ⟨a, b⟩ := p
  obtain ⟨c, d⟩ := q
  simp only [pairV, Value.agg.injEq] at h
  have h := congrArg Array.toList h
  simp at h
  obtain ⟨rfl, rfl⟩ := h
  rfl
theorem pair_equal (a b : Int × Int) (w : World) : (Op.equal 61 (pairV a) (pairV b)).run Tryz.prog w = .ok (decide (a = b)) w := by
  obtain ⟨i, hi, hs⟩ := Option.map_eq_some_iff.1 (show (Tryz.prog.info? 3).map (·.size) = some 1 by kernel_rfl)
  have u3 := Tryz.underlying3
  have c3 : Tryz.prog.cellsOf 3 = 1 := by kernel_rfl
  have a3 := Tryz.isAgg3
  have z3 := Tryz.sizeOf3
  obtain ⟨a1, a2⟩ := a
  obtain ⟨b1, b2⟩ := b
  unfold Op.equal Op.maxDepth pairV
  rw [show (10000 : Nat) = 9998 + 1 + 1 from rfl, run_equalIn_array w (9998 + 1) _ _ Tryz.underlying61 hi, c3]
  simp only [List.range_succ, List.range_zero, List.nil_append, List.cons_append, Op.eqItems]
  go_simp
  by_cases h1 : a1 = b1 <;> by_cases h2 : a2 = b2 <;> simp [h1, h2]
theorem pair_check (empty : Bool) (w : World) (p : Int × Int) : (Instr.checkKey empty (9998 + 1 + 1) 61 (pairV p)).run Tryz.prog w = .ok () w := by
  have u3 := Tryz.underlying3
  have a3 := Tryz.isAgg3
  have z3 := Tryz.sizeOf3
  have hc : ∀ (x : Int) (w : World), (Instr.checkKey empty 9999 3 (.int .i64 x)).run Tryz.prog w = .ok () w := fun x w => by
    obtain ⟨d, hd⟩ : ∃ d, (9999 : Nat) = d + 1 := ⟨9998, rfl⟩
    rw [hd]
    simp [Instr.checkKey, run_underlying u3]
  obtain ⟨a, b⟩ := p
  unfold pairV
  rw [Instr.checkKey]
  simp only [Sem.run_bind, run_underlying Tryz.underlying61, Result.andThen_ok, Std.Legacy.Range.forIn_eq_forIn_range', Std.Legacy.Range.size]
  simp only [Nat.sub_zero, Nat.add_one_sub_one, Nat.div_one, List.range'_succ, List.range'_zero, List.forIn_cons, List.forIn_nil]
  go_simp
def pairK : KeyEnc Tryz.prog 61 (Int × Int) where
  enc := pairV
  inj := fun a b h => pairV_inj h
  check := fun empty w k => pair_check empty w k
  find := find_asking Tryz.prog 61 _ Tryz.underlying61 pairV (fun k es e he ⟨k', hk'⟩ => by
    cases es with
    | nil => simp at he
    | cons x es =>
      simp at he
      subst he
      rw [Instr.findNow, hk']; rfl) (fun a b w => by
    by_cases h : a = b
    · exact .inl ⟨by rw [pair_equal, decide_eq_true h], by rw [h]⟩
    · exact .inr ⟨by rw [pair_equal, decide_eq_false h], fun e => h (pairV_inj e)⟩)
  stays := fun w k => by
    obtain ⟨d, hd⟩ : ∃ d, (10000 : Nat) = d + 1 := ⟨9999, rfl⟩
    unfold Instr.keyThatStays
    rw [hd]
    simp [Instr.sameBits, pairV]

/-! ### a queue -/
theorem setCells_grown (b : Nat) : ∀ (vs : List Value) (o : Nat) (w : World), w.grownBy (w.setCells b o vs) (some b)
  | [], o, w => ⟨rfl, rfl, rfl, Nat.le_refl _, fun _ _ _ => rfl⟩
  | v :: vs, o, w => by
    rw [World.setCells]
    refine World.grownBy.trans (b := w.setCell ⟨b, o, none⟩ v) ⟨rfl, rfl, rfl, by simp [World.setCell], fun k hk hne => ?_⟩ (setCells_grown b vs (o + 1) _)
    exact Below.heap_setCell _ _ _ _ (fun e => hne (by rw [e]))
theorem rangeAt_append {w : World} {b o : Nat} {xs ys : List Value} (h1 : w.rangeAt b o xs) (h2 : w.rangeAt b (o + xs.length) ys) : w.rangeAt b o (xs ++ ys) := fun j v hj => by
  by_cases h : j < xs.length
  · rw [List.getElem?_append_left h] at hj; exact h1 j v hj
  · rw [List.getElem?_append_right (by omega)] at hj
    have := h2 _ v hj
    rwa [show o + xs.length + (j - xs.length) = o + j by omega] at this
/-- the slice v of n elements of k cells lies in a block of the call's own, with room behind it or not -/
def Que (w : World) (base k : Nat) (v : Value) (n : Nat) (xs : List Value) : Prop :=
  xs.length = n * k ∧ ∃ g off cap, v = .slice (some ⟨g, off, none⟩) n cap ∧ base ≤ g ∧ g < w.heap.size ∧ n ≤ cap ∧ cap ≤ maxLen ∧ w.rangeAt g off xs ∧ w.there g (off + n * k) ((cap - n) * k)
section
variable {w w' : World} {base k n : Nat} {v : Value} {xs : List Value}
theorem Que.lt (h : Que w base k v n xs) : ∀ b, v.ownBlock = some b → base ≤ b ∧ b < w.heap.size := by
  obtain ⟨_, g, off, cap, rfl, h1, h2, _⟩ := h
  intro b hb
  simp [Value.ownBlock] at hb
  subst hb
  exact ⟨h1, h2⟩
theorem Que.kept (h : Que w base k v n xs) {row : Option Nat} (hg : w.grownBy w' row) (hne : v.ownBlock ≠ row) : Que w' base k v n xs := by
  obtain ⟨hl, g, off, cap, rfl, h1, h2, h3, h4, h5, h6⟩ := h
  have hb : w'.heap[g]? = w.heap[g]? := hg.block g h2 (by simpa [Value.ownBlock] using hne)
  refine ⟨hl, g, off, cap, rfl, h1, Nat.lt_of_lt_of_le h2 hg.size, h3, h4, fun j u hj => ?_, fun j hj => ?_⟩
  · exact (World.cell?_of_block (a := ⟨g, off + j, none⟩) hb).trans (h5 j u hj)
  · have := h6 j hj
    rw [World.cell?_of_block (w := w) (w' := w') (a := ⟨g, off + n * k + j, none⟩) hb, World.frozen?_of_block (w := w) (w' := w') (a := ⟨g, off + n * k + j, none⟩) hb]
    exact this
theorem Que.ext (h : Que w base k v n xs) (hx : Ext w w') : Que w' base k v n xs :=
  h.kept (row := none) ⟨Below.os hx, Below.tape hx, Below.output hx, Below.size hx, fun i hi _ => Below.block hx i hi⟩ (by obtain ⟨_, g, off, cap, rfl, _⟩ := h; simp [Value.ownBlock])
theorem Que.of_owns {e : TypeId} (h : w.ownsRow base e k v (n + 1) xs) : Que w base k v (n + 1) xs := by
  obtain ⟨hl, h | ⟨g, cap, cur, rfl, h1, h2, h3, h4, h5, h6⟩⟩ := h
  · exact absurd h.2 (by omega)
  · refine ⟨hl, g, 0, cap, rfl, h1, (Array.getElem?_eq_some_iff.1 h2).1, h3, h4, fun j u hj => ?_, fun j hj => ?_⟩
    · rw [← h6, List.getElem?_take] at hj
      split at hj
      · simp [World.cell?, h2]; simpa using hj
      · cases hj
    · have h7 : 0 + (n + 1) * k + j < cur.size := by
        rw [h5]
        have : (n + 1) * k + (cap - (n + 1)) * k = cap * k := by rw [← Nat.add_mul]; congr 1; omega
        omega
      constructor
      · simp [World.cell?, h2]; omega
      · simp [World.frozen?, h2]
/-- one element off in front -/
theorem Que.pop {g off cap : Nat} {r : List Value} (h : Que w base k (.slice (some ⟨g, off, none⟩) (n + 1) cap) (n + 1) (r ++ xs)) (hr : r.length = k) (hcap : 1 < cap) : Que w base k (.slice (some ⟨g, off + k, none⟩) n (cap - 1)) n xs := by
  obtain ⟨hl, g', off', cap', e, h1, h2, h3, h4, h5, h6⟩ := h
  simp only [Value.slice.injEq, Option.some.injEq, Addr.mk.injEq, and_true] at e
  obtain ⟨⟨rfl, rfl⟩, _, rfl⟩ := e
  rw [List.length_append, hr, Nat.add_mul] at hl
  refine ⟨by omega, g, off + k, cap - 1, rfl, h1, h2, by omega, by omega, fun j u hj => ?_, ?_⟩
  · have := h5 (k + j) u (by rw [List.getElem?_append_right (by omega), hr, Nat.add_sub_cancel_left]; exact hj)
    rwa [show off + (k + j) = off + k + j by omega] at this
  · rw [show off + k + n * k = off + (n + 1) * k by rw [Nat.add_mul]; omega, show cap - 1 - n = cap - (n + 1) by omega]
    exact h6
theorem Que.pop_last {g off : Nat} {r : List Value} (h : Que w base k (.slice (some ⟨g, off, none⟩) 1 1) 1 r) : Que w base k (.slice (some ⟨g, off, none⟩) 0 0) 0 [] := by
  obtain ⟨hl, g', off', cap', e, h1, h2, h3, h4, h5, h6⟩ := h
  simp only [Value.slice.injEq, Option.some.injEq, Addr.mk.injEq, and_true] at e
  obtain ⟨⟨rfl, rfl⟩, _, rfl⟩ := e
  exact ⟨by simp, g, off, 0, rfl, h1, h2, Nat.le_refl _, by simp [maxLen], fun j u hj => by simp at hj, fun j hj => by simp at hj⟩
end
section
variable {P : Program}
theorem run_append_que {w : World} {base k : Nat} (t ty e : TypeId) (i : TypeInfo) (z : Value) (bytes : Nat) (ht : P.underlying t = some (.slice e)) (hi : P.info? e = some i) (hz : i.zero = some z)
    (hsize : i.size = k) (hby : i.bytes = bytes) (hzs : z.cells.size = k) (hsz : 0 < k) {v : Value} {n : Nat} {xs : List Value} (h : Que w base k v n xs) (hbase : base ≤ w.heap.size)
    (ad : Addr) (c : Nat) (news : List Value) (hl : news.length = k) (hnews : ∀ j u, news[j]? = some u → w.cell? (ad.add j) = some u) (h1 : ∀ u ∈ news, u.oneCell' = true)
    (h63 : n + 1 ≤ maxLen) (hbytes : (n + 1) * bytes ≤ 140737488355328) :
    ∃ v' w', (Builtin.append_ #[t, t] ty #[v, .slice (some ad) 1 c]).run P w = .ok v' w' ∧ Que w' base k v' (n + 1) (xs ++ news) ∧ w.grownBy w' v.ownBlock ∧ (v'.ownBlock = v.ownBlock ∨ ∃ b, v'.ownBlock = some b ∧ w.heap.size ≤ b) := by
  obtain ⟨hxl, g, off, cap, rfl, q1, q2, q3, q4, q5, q6⟩ := h
  subst hsize
  by_cases hroom : n + 1 ≤ cap
  · have hsp : i.size ≤ (cap - n) * i.size := Nat.le_mul_of_pos_left _ (by omega)
    have hrun := run_append_room_cells (P := P) w t ty e i ht hi g off n cap ad 1 c news (by rw [hl, Nat.one_mul]) hnews h1 hroom (fun j hj => (q6 j (by omega)).1) (fun j hj => (q6 j (by omega)).2)
    refine ⟨_, _, hrun, ⟨by rw [List.length_append, hxl, hl, Nat.add_mul, Nat.one_mul], g, off, cap, rfl, q1, ?_, hroom, q4, ?_, ?_⟩, setCells_grown _ _ _ _, .inl rfl⟩
    · exact Nat.lt_of_lt_of_le q2 (setCells_grown g news _ w).size
    · refine rangeAt_append (World.rangeAt_setCells_apart q5 _ _ _ (.inr (.inl (by omega)))) ?_
      rw [hxl]
      exact World.rangeAt_setCells_same _ _ _ _ (fun j hj => q6 j (by omega))
    · have h8 : w.there g (off + (n + 1) * i.size) ((cap - (n + 1)) * i.size) := fun j hj => by
        have := q6 (i.size + j) (by
          have h9 : (cap - n) * i.size = (cap - (n + 1)) * i.size + i.size := by rw [show cap - n = cap - (n + 1) + 1 by omega, Nat.add_mul, Nat.one_mul]
          omega)
        rwa [show off + n * i.size + (i.size + j) = off + (n + 1) * i.size + j by rw [Nat.add_mul]; omega] at this
      exact World.there_setCells h8 _ _ _
  · obtain ⟨v', w', hrun, r1, r2⟩ := run_append_arg_grows (P := P) w t ty e i z i.size bytes ht hi hz rfl hby hzs hsz ⟨g, off, none⟩ n cap xs hxl (fun j u hj => by rw [Addr.add_mid]; exact q5 j u hj) ad 1 c news (by rw [hl, Nat.one_mul]) hnews (by omega) h63 hbytes
    have r1' : w'.ownsRow base e i.size v' (n + 1) (xs ++ news) := ⟨r1.1, r1.2.imp id fun ⟨g, cap, cur, a1, a2, a3⟩ => ⟨g, cap, cur, a1, Nat.le_trans hbase a2, a3⟩⟩
    refine ⟨v', w', hrun, Que.of_owns r1', ⟨r2.os, r2.tape, r2.output, r2.size, fun b hb _ => r2.block b hb (by simp)⟩, ?_⟩
    obtain ⟨_, h | ⟨g', cap', cur, rfl, a1, a2, _⟩⟩ := r1
    · exact absurd h.2 (by omega)
    · exact .inr ⟨g', rfl, a1⟩
/-- the append of one element, in a region that draws its order -/
theorem step_append_que {ops : Array Oper} {o : Oper} {a : Act} {w : World} {K : Act → World → Prop} {Q : Exit → Act → World → Prop} {E : Prop}
    (hg : o.guard = none) (s x : Operand) (t : TypeId) (hop : o.op = Op.call { callee := Callee.builtin Builtin.append, args := #[s, x], argTypes := #[t, t] })
    (base k : Nat) (e : TypeId) (i : TypeInfo) (z : Value) (bytes : Nat) (ht : P.underlying t = some (.slice e)) (hi : P.info? e = some i) (hz : i.zero = some z) (hsize : i.size = k) (hby : i.bytes = bytes) (hzs : z.cells.size = k) (hsz : 0 < k)
    (v : Value) (n : Nat) (xs : List Value) (hs : a.eval s = v) (h : Que w base k v n xs) (hbase : base ≤ w.heap.size)
    (ad : Addr) (c : Nat) (news : List Value) (hx : a.eval x = .slice (some ad) 1 c) (hl : news.length = k) (hnews : ∀ j u, news[j]? = some u → w.cell? (ad.add j) = some u) (h1 : ∀ u ∈ news, u.oneCell' = true)
    (h63 : n + 1 ≤ maxLen) (hbytes : (n + 1) * bytes ≤ 140737488355328)
    (hK : ∀ v' w', Que w' base k v' (n + 1) (xs ++ news) → w.grownBy w' v.ownBlock → (v'.ownBlock = v.ownBlock ∨ ∃ b, v'.ownBlock = some b ∧ w.heap.size ≤ b) → K (a.put o.dst v') w') :
    if Region.wanted o (yielded ops a.tmps) = true then Oper.wp P o a w K Q else E := by
  have hw : Region.wanted o (yielded ops a.tmps) = true := by simp [Region.wanted, hg]
  rw [if_pos hw]
  obtain ⟨v', w', hrun, r1, r2, r3⟩ := run_append_que (P := P) t o.type e i z bytes ht hi hz hsize hby hzs hsz h hbase ad c news hl hnews h1 h63 hbytes
  unfold Oper.wp
  simp [execOp, hop, resolve, invoke, builtin, hs, hx, hrun, Result.andThen]
  exact hK v' w' r1 r2 r3
end

/-- a queue that reads as xs; what lies behind its elements lies in F, and not in its own block -/
def QueE {α : Type} (F : Nat → Prop) (E : Elt α) (w : World) (base : Nat) (v : Value) (xs : List α) : Prop :=
  ∃ rows : List (List Value), rows.length = xs.length ∧ Que w base E.k v xs.length rows.flatten ∧ ∀ (i : Nat) (x : α) (r : List Value), xs[i]? = some x → rows[i]? = some r → E.rel (fun b => F b ∧ some b ≠ v.ownBlock) w x r
section
variable {α : Type} {F : Nat → Prop} {E : Elt α} {w w' : World} {base : Nat} {v : Value} {xs : List α}
theorem QueE.lt (h : QueE F E w base v xs) : ∀ b, v.ownBlock = some b → base ≤ b ∧ b < w.heap.size := by
  obtain ⟨rows, _, hq, _⟩ := h
  exact hq.lt
theorem QueE.kept (h : QueE F E w base v xs) {row : Option Nat} (hg : w.grownBy w' row) (hne : v.ownBlock ≠ row) (hF : ∀ b, F b → some b ≠ row) : QueE F E w' base v xs := by
  obtain ⟨rows, hl, hq, hr⟩ := h
  exact ⟨rows, hl, hq.kept hg hne, fun i x r h1 h2 => E.mono _ _ _ _ _ _ (fun b hb hlt => hg.block b hlt (hF b hb.1)) (fun b hb _ => hb) (hr i x r h1 h2)⟩
theorem QueE.ext (h : QueE F E w base v xs) (hx : Ext w w') : QueE F E w' base v xs := by
  obtain ⟨rows, hl, hq, hr⟩ := h
  exact ⟨rows, hl, hq.ext hx, fun i x r h1 h2 => Elt.ext (hr i x r h1 h2) hx⟩
theorem QueE.push {y : α} {rows : List (List Value)} {news : List Value} {v' : Value} (hl : rows.length = xs.length) (hr : ∀ (i : Nat) (x : α) (r : List Value), xs[i]? = some x → rows[i]? = some r → E.rel (fun b => F b ∧ some b ≠ v.ownBlock) w x r)
    (hy : E.rel (fun b => F b ∧ some b ≠ v.ownBlock) w y news) (hq : Que w' base E.k v' (xs.length + 1) (rows.flatten ++ news)) (hg : w.grownBy w' v.ownBlock) (hat : v'.ownBlock = v.ownBlock ∨ ∃ b, v'.ownBlock = some b ∧ w.heap.size ≤ b) :
    QueE F E w' base v' (xs ++ [y]) := by
  have keep : ∀ x2 r2, E.rel (fun b => F b ∧ some b ≠ v.ownBlock) w x2 r2 → E.rel (fun b => F b ∧ some b ≠ v'.ownBlock) w' x2 r2 := by
    intro x2 r2 h3
    refine E.mono _ _ _ _ _ _ (fun b hb hbl => hg.block b hbl hb.2) (fun b hb hbl => ⟨hb.1, ?_⟩) h3
    rcases hat with hat | ⟨b', hat, hle⟩
    · rw [hat]; exact hb.2
    · rw [hat]; intro e; injection e with e; omega
  refine ⟨rows ++ [news], by simp [hl], by simpa using hq, fun i x r h1 h2 => ?_⟩
  by_cases hk : i < xs.length
  · rw [List.getElem?_append_left hk] at h1
    rw [List.getElem?_append_left (by omega)] at h2
    exact keep _ _ (hr i x r h1 h2)
  · rw [List.getElem?_append_right (by omega)] at h1
    rw [List.getElem?_append_right (by omega), hl] at h2
    have hk0 : i - xs.length = 0 := by have := (List.getElem?_eq_some_iff.1 h1).1; simp at this; omega
    rw [hk0] at h1 h2
    simp at h1 h2
    subst h1 h2
    exact keep _ _ hy
theorem QueE.made {y : α} {news : List Value} {e : TypeId} (hb : base ≤ w.heap.size) (hy : E.rel F w y news) (hF : ∀ b, F b → b < w.heap.size → True) : QueE F E (w.alloc (.cells news.toArray e)) base (.slice (some ⟨w.heap.size, 0, none⟩) 1 1) [y] := by
  have hl := E.len _ _ _ _ hy
  refine ⟨[news], rfl, ⟨by simp [hl], w.heap.size, 0, 1, rfl, hb, by simp, Nat.le_refl _, by simp [maxLen], fun j u hj => ?_, fun j hj => by simp at hj⟩, fun i x r h1 h2 => ?_⟩
  · rw [Nat.zero_add, World.cell?_alloc_new]
    simpa using hj
  · cases i with
    | zero =>
      simp at h1 h2
      subst h1 h2
      exact E.mono _ _ _ _ _ _ (fun b hb hlt => Below.heap_alloc _ _ _ hlt) (fun b hb hlt => ⟨hb, by simp [Value.ownBlock]; omega⟩) hy
    | succ i => simp at h1
/-- the first of a queue, and what is left behind it -/
theorem QueE.head {x : α} (h : QueE F E w base v (x :: xs)) : ∃ g off cap r, v = .slice (some ⟨g, off, none⟩) (xs.length + 1) cap ∧ xs.length + 1 ≤ cap ∧ cap ≤ maxLen ∧ E.rel (fun b => F b ∧ b ≠ g) w x r ∧ (∀ j u, r[j]? = some u → w.cell? ⟨g, off + j, none⟩ = some u) := by
  obtain ⟨rows, hl, ⟨hxl, g, off, cap, rfl, h1, h2, h3, h4, h5, h6⟩, hr⟩ := h
  cases rows with
  | nil => simp at hl
  | cons r rows =>
    have h7 := hr 0 x r rfl rfl
    have h8 := E.len _ _ _ _ h7
    refine ⟨g, off, cap, r, rfl, h3, h4, E.mono _ _ _ _ _ _ (fun _ _ _ => rfl) (fun b hb _ => ⟨hb.1, fun e => hb.2 (by simp [Value.ownBlock, e])⟩) h7, fun j u hj => h5 j u ?_⟩
    rw [List.flatten_cons, List.getElem?_append_left (List.getElem?_eq_some_iff.1 hj).1]
    exact hj
theorem QueE.pop {x : α} {g off cap : Nat} (h : QueE F E w base (.slice (some ⟨g, off, none⟩) (xs.length + 1) cap) (x :: xs)) (hcap : 1 < cap) : QueE F E w base (.slice (some ⟨g, off + E.k, none⟩) xs.length (cap - 1)) xs := by
  obtain ⟨rows, hl, hq, hr⟩ := h
  cases rows with
  | nil => simp at hl
  | cons r rows =>
    have h8 := E.len _ _ _ _ (hr 0 x r rfl rfl)
    rw [List.flatten_cons] at hq
    refine ⟨rows, by simpa using hl, hq.pop h8 hcap, fun i y s h1 h2 => hr (i + 1) y s (by simpa using h1) (by simpa using h2)⟩
theorem QueE.pop_last {x : α} {g off : Nat} (h : QueE F E w base (.slice (some ⟨g, off, none⟩) 1 1) [x]) : QueE F E w base (.slice (some ⟨g, off, none⟩) 0 0) [] := by
  obtain ⟨rows, hl, hq, hr⟩ := h
  exact ⟨[], rfl, hq.pop_last, fun i y s h1 h2 => by simp at h1⟩
end
/-- a pair of types and the way to it -/
def spotE : Elt ((Nat × Nat) × List Nat) where
  k := 3
  pos := by decide
  rel F w x cs := ∃ vw, cs = [.int .i64 (x.1.1 : Int), .int .i64 (x.1.2 : Int), vw] ∧ SlF F intE w vw (x.2.map fun (n : Nat) => (n : Int))
  len := by rintro F w x cs ⟨vw, rfl, _⟩; rfl
  one := by rintro F w x cs ⟨vw, rfl, ⟨_, _, rfl, _⟩⟩; simp [Value.oneCell']
  mono := fun _ _ _ _ _ _ hw hG ⟨vw, e, ha⟩ => ⟨vw, e, ha.mono hw hG⟩
end Go.Proofs.YtldnjnnhfeobdaaGreatDoor
/- Plain theory: the search as a relation; a search that has not marked its start finds the same. No program. No condition. -/
namespace Go.Proofs.YtldnjnnhfeobdaaGreatDoor
set_option linter.all false
set_option linter.unusedSimpArgs false
set_option linter.unusedVariables false

inductive Srch (ag : Nat → Nat → Bool) (rf : Nat → List Nat) : List (Nat × Nat) → List Spot → Option (List Nat) → Prop
  | stop (s : List (Nat × Nat)) : Srch ag rf s [] none
  | hit (s : List (Nat × Nat)) (x : Spot) (o : List Spot) (h : ag x.1.1 x.1.2 = false) : Srch ag rf s (x :: o) (some x.2)
  | go (s : List (Nat × Nat)) (x : Spot) (o : List Spot) (r : Option (List Nat)) (h : ag x.1.1 x.1.2 = true) (h2 : Srch ag rf (pushN x.2 0 (kidsN rf x.1) s o).1 (pushN x.2 0 (kidsN rf x.1) s o).2 r) : Srch ag rf s (x :: o) r

section
variable {n : Nat} {ag : Nat → Nat → Bool} {rf : Nat → List Nat} {a b : Nat}
theorem srch_of (G : AbsGraph n ag rf) : ∀ f dn s o, Inv n ag rf a b dn s o → leftN n s o < f → Srch ag rf s o (apartN ag rf f s o) := by
  intro f
  induction f with
  | zero => intro dn s o _ h; omega
  | succ f ih =>
    intro dn s o I h
    cases o with
    | nil => exact .stop s
    | cons x o =>
      unfold apartN
      cases hx : ag x.1.1 x.1.2 with
      | false => exact .hit s x o hx
      | true =>
        have := I.left G hx
        exact .go s x o _ hx (ih _ _ _ (I.step G hx) (by omega))

theorem pushN_seen (way : List Nat) : ∀ ps k s o, (∀ p ∈ ps, p ∈ s) → pushN way k ps s o = (s, o)
  | [], k, s, o, _ => rfl
  | p :: ps, k, s, o, h => by
    unfold pushN
    rw [if_pos (h p (by simp))]
    exact pushN_seen way ps (k + 1) s o (fun q hq => h q (by simp [hq]))

/-- two lists of what has been seen, alike but for p0 -/
def But (p0 : Nat × Nat) (s s2 : List (Nat × Nat)) : Prop := p0 ∈ s ∧ ∀ q, q ≠ p0 → (q ∈ s ↔ q ∈ s2)
theorem But.push {p0 p : Nat × Nat} {s s2 : List (Nat × Nat)} (h : But p0 s s2) : But p0 (s ++ [p]) (s2 ++ [p]) :=
  ⟨by simp [h.1], fun q hq => by simp only [List.mem_append, h.2 q hq]⟩
theorem But.right {p0 : Nat × Nat} {s s2 : List (Nat × Nat)} (h : But p0 s s2) : But p0 s (s2 ++ [p0]) :=
  ⟨h.1, fun q hq => by simp only [List.mem_append, List.mem_singleton, h.2 q hq, hq, or_false]⟩

theorem pushN_but (p0 : Nat × Nat) (way : List Nat) : ∀ ps k s s2 o o2, But p0 s s2 →
    ∃ new new2, (pushN way k ps s o).2 = o ++ new ∧ (pushN way k ps s2 o2).2 = o2 ++ new2 ∧ But p0 (pushN way k ps s o).1 (pushN way k ps s2 o2).1 ∧ (∀ q ∈ s, q ∈ (pushN way k ps s o).1) ∧ (∀ q ∈ s2, q ∈ (pushN way k ps s2 o2).1) ∧
      (new2 = new ∨ p0 ∉ s2 ∧ p0 ∈ (pushN way k ps s2 o2).1 ∧ ∃ n1 n2 w, new = n1 ++ n2 ∧ new2 = n1 ++ (p0, w) :: n2) := by
  intro ps
  induction ps with
  | nil => intro k s s2 o o2 h; exact ⟨[], [], by simp [pushN], by simp [pushN], h, fun q hq => hq, fun q hq => hq, .inl rfl⟩
  | cons p ps ih =>
    intro k s s2 o o2 h
    unfold pushN
    by_cases e : p = p0
    · subst e
      rw [if_pos h.1]
      by_cases h2 : p ∈ s2
      · rw [if_pos h2]; exact ih (k + 1) s s2 o o2 h
      · rw [if_neg h2]
        obtain ⟨new, new2, h3, h4, h5, h6, h7, h8⟩ := ih (k + 1) s (s2 ++ [p]) o (o2 ++ [(p, way ++ [k])]) h.right
        have h9 : new2 = new := by
          rcases h8 with h8 | h8
          · exact h8
          · exact absurd (by simp) h8.1
        subst h9
        exact ⟨new2, (p, way ++ [k]) :: new2, h3, by rw [h4]; simp, h5, h6, fun q hq => h7 q (by simp [hq]), .inr ⟨h2, h7 p (by simp), [], new2, way ++ [k], rfl, rfl⟩⟩
    · have h2 := h.2 p e
      by_cases h3 : p ∈ s
      · rw [if_pos h3, if_pos (h2.1 h3)]; exact ih (k + 1) s s2 o o2 h
      · rw [if_neg h3, if_neg (fun h' => h3 (h2.2 h'))]
        obtain ⟨new, new2, h4, h5, h6, h7, h8, h9⟩ := ih (k + 1) (s ++ [p]) (s2 ++ [p]) (o ++ [(p, way ++ [k])]) (o2 ++ [(p, way ++ [k])]) h.push
        refine ⟨(p, way ++ [k]) :: new, (p, way ++ [k]) :: new2, by rw [h4]; simp, by rw [h5]; simp, h6, fun q hq => h7 q (by simp [hq]), fun q hq => h8 q (by simp [hq]), ?_⟩
        rcases h9 with rfl | ⟨g1, g2, n1, n2, w, rfl, rfl⟩
        · exact .inl rfl
        · exact .inr ⟨fun h' => g1 (by simp [h']), g2, (p, way ++ [k]) :: n1, n2, w, rfl, rfl⟩

/-- what is open, alike but for one that stands for p0 -/
def OpenBut (p0 : Nat × Nat) (s2 : List (Nat × Nat)) (o o2 : List Spot) : Prop := o2 = o ∨ p0 ∈ s2 ∧ ∃ o' o'' w, o = o' ++ o'' ∧ o2 = o' ++ (p0, w) :: o''

theorem Srch.idle {p0 : Nat × Nat} {w : List Nat} {s2 : List (Nat × Nat)} {o : List Spot} {r : Option (List Nat)} (hag : ag p0.1 p0.2 = true) (hk : ∀ q ∈ kidsN rf p0, q ∈ s2) (h : Srch ag rf s2 o r) : Srch ag rf s2 ((p0, w) :: o) r := by
  refine .go s2 (p0, w) o r hag ?_
  rw [pushN_seen _ _ _ _ _ hk]
  exact h

theorem Srch.but {p0 : Nat × Nat} (hag : ag p0.1 p0.2 = true) {s : List (Nat × Nat)} {o : List Spot} {r : Option (List Nat)} (h : Srch ag rf s o r) :
    ∀ s2 o2, But p0 s s2 → (∀ q ∈ kidsN rf p0, q ∈ s) → OpenBut p0 s2 o o2 → Srch ag rf s2 o2 r := by
  have kids : ∀ s s2, But p0 s s2 → (∀ q ∈ kidsN rf p0, q ∈ s) → p0 ∈ s2 → ∀ q ∈ kidsN rf p0, q ∈ s2 := fun s s2 hb hk h0 q hq => by
    by_cases e : q = p0
    · rw [e]; exact h0
    · exact (hb.2 q e).1 (hk q hq)
  induction h with
  | stop s =>
    intro s2 o2 hb hk ho
    rcases ho with rfl | ⟨h0, o', o'', w, e, rfl⟩
    · exact .stop s2
    · have e1 : o' = [] := (List.append_eq_nil_iff.1 e.symm).1
      have e2 : o'' = [] := (List.append_eq_nil_iff.1 e.symm).2
      subst e1 e2
      exact Srch.idle hag (kids s s2 hb hk h0) (.stop s2)
  | hit s x o hx =>
    intro s2 o2 hb hk ho
    rcases ho with rfl | ⟨h0, o', o'', w, e, rfl⟩
    · exact .hit s2 x o hx
    · cases o' with
      | nil =>
        have e : x :: o = o'' := e
        subst e
        exact Srch.idle hag (kids s s2 hb hk h0) (.hit s2 x o hx)
      | cons y o' =>
        injection e with e1 e2
        subst e1
        exact .hit s2 x _ hx
  | go s x o r hx h2 ih =>
    intro s2 o2 hb hk ho
    have main : ∀ rest, OpenBut p0 s2 o rest → Srch ag rf s2 (x :: rest) r := by
      intro rest hr
      refine .go s2 x rest r hx ?_
      obtain ⟨new, new2, h3, h4, h5, h6, h7, h8⟩ := pushN_but p0 x.2 (kidsN rf x.1) 0 s s2 o rest hb
      refine ih _ _ h5 (fun q hq => h6 q (hk q hq)) ?_
      rw [h3, h4]
      rcases hr with rfl | ⟨h0, o', o'', w, rfl, rfl⟩
      · rcases h8 with rfl | ⟨_, g2, n1, n2, w, rfl, rfl⟩
        · exact .inl rfl
        · exact .inr ⟨g2, rest ++ n1, n2, w, by simp, by simp⟩
      · have e : new2 = new := by
          rcases h8 with h8 | h8
          · exact h8
          · exact absurd h0 h8.1
        subst e
        exact .inr ⟨h7 p0 h0, o', o'' ++ new2, w, by simp, by simp⟩
    rcases ho with rfl | ⟨h0, o', o'', w, e, rfl⟩
    · exact main _ (.inl rfl)
    · cases o' with
      | nil =>
        have e : x :: o = o'' := e
        subst e
        exact Srch.idle hag (kids s s2 hb hk h0) (main _ (.inl rfl))
      | cons y o' =>
        injection e with e1 e2
        subst e1
        exact main _ (.inr ⟨h0, o', o'', w, e2, rfl⟩)

/-- the search that has not marked its start -/
theorem Srch.bare {p0 : Nat × Nat} {r : Option (List Nat)} (h : Srch ag rf [p0] [(p0, [])] r) : Srch ag rf [] [(p0, [])] r := by
  cases h with
  | hit s x o hx => exact .hit _ _ _ hx
  | go s x o r hx h2 =>
    refine .go _ _ _ r hx ?_
    have hb : But p0 [p0] [] := ⟨by simp, fun q hq => by simp [hq]⟩
    obtain ⟨new, new2, h3, h4, h5, h6, h7, h8⟩ := pushN_but p0 [] (kidsN rf p0) 0 [p0] [] [] [] hb
    refine Srch.but hx h2 _ _ h5 (fun q hq => ?_) ?_
    · obtain ⟨nw, e1, e2, e3, e4⟩ := pushN_spec [] (kidsN rf p0) 0 [p0] []
      have := e3 q hq
      show q ∈ (pushN [] 0 (kidsN rf p0) [p0] []).1
      rw [e1]; exact this
    · show OpenBut p0 _ (pushN [] 0 (kidsN rf p0) [p0] []).2 (pushN [] 0 (kidsN rf p0) [] []).2
      rw [h3, h4]
      rcases h8 with rfl | ⟨_, g2, n1, n2, w, rfl, rfl⟩
      · exact .inl rfl
      · exact .inr ⟨g2, n1, n2, w, by simp, by simp⟩
theorem Srch.uniq {s : List (Nat × Nat)} {o : List Spot} {r r2 : Option (List Nat)} (h : Srch ag rf s o r) (k : Srch ag rf s o r2) : r = r2 := by
  induction h with
  | stop s => cases k; rfl
  | hit s x o hx =>
    cases k with
    | hit => rfl
    | go _ _ _ _ h3 => rw [hx] at h3; cases h3
  | go s x o r hx h2 ih =>
    cases k with
    | hit _ _ _ h3 => rw [hx] at h3; cases h3
    | go _ _ _ _ _ h4 => exact ih h4
end
theorem pushN_snoc (way : List Nat) (p : Nat × Nat) : ∀ ps k s o, pushN way k (ps ++ [p]) s o = if p ∈ (pushN way k ps s o).1 then pushN way k ps s o else ((pushN way k ps s o).1 ++ [p], (pushN way k ps s o).2 ++ [(p, way ++ [k + ps.length])])
  | [], k, s, o => by by_cases h : p ∈ s <;> simp [pushN, h]
  | q :: ps, k, s, o => by
    simp only [List.cons_append, pushN]
    have e : k + (q :: ps).length = k + 1 + ps.length := by simp; omega
    rw [e]
    split
    · exact pushN_snoc way p ps (k + 1) s o
    · exact pushN_snoc way p ps (k + 1) _ _
/-- what the search for a way finds -/
def wayN (ag : Nat → Nat → Bool) (rf : Nat → List Nat) (n a b : Nat) : Option (List Nat) := apartN ag rf (n * n + 2) [(a, b)] [((a, b), [])]
theorem wayN_srch {n : Nat} {ag : Nat → Nat → Bool} {rf : Nat → List Nat} {a b : Nat} (G : AbsGraph n ag rf) (ha : a < n) (hb : b < n) : Srch ag rf [(a, b)] [((a, b), [])] (wayN ag rf n a b) :=
  srch_of G _ [] _ _ (Inv.init ha hb) (by unfold leftN; simp; omega)
theorem wayN_found {n : Nat} {ag : Nat → Nat → Bool} {rf : Nat → List Nat} {a b : Nat} (G : AbsGraph n ag rf) (ha : a < n) (hb : b < n) : Found ag rf a b (wayN ag rf n a b) :=
  apartN_found G _ [] _ _ (Inv.init ha hb) (by unfold leftN; simp; omega)
end Go.Proofs.YtldnjnnhfeobdaaGreatDoor
