/- Parts of the proof, joined: Contracts: symbols, kinds, methods that agree, names out of records. Conditions: lengths below 2^20; the two package variables of Go's library that are read hold what they are laid with; Contracts: methods that agree; what of a type is plain; names out of records. Conditions: lengths below 2^20; A map of the call's own, told as a function from keys to values. Keys: strings, ints, pairs of ints. No condition; Contract: different (names that are names, and no two the same). Conditions: lengths below 2^20; Contracts: the rules on brands and parts. Conditions: lengths below 2^20; Contracts: the rules on references, arrays, records, ranges and opaque types. Conditions: lengths below 2^20; Contracts: the rules on records, ranges and opaque types. Conditions: lengths below 2^20; Regions that draw their order, whose operations read what lay before and call what leaves it: one walk in the order of the text. No condition; Contracts: the rule on opaque types. Conditions: lengths below 2^20; Contract: signatures. Conditions: lengths below 2^20; Contracts: what an object type has beside its brand. Conditions: lengths below 2^20. -/
import Derived.WalkSmall
import Derived.Maps.OwnOps
import Derived.Laws.StructEq
import Derived.Deep.RegionWith
import Derived.Deep.DeepCutAuto
import Derived.Deep.CutBlock
import Derived.Test.YtldnjnnhfeobdaaGreatDoorB1
import Derived.Test.YtldnjnnhfeobdaaGreatDoorShelfP
namespace Go.Proofs.YtldnjnnhfeobdaaGreatDoor
set_option linter.all false
set_option linter.unusedSimpArgs false
set_option linter.unusedVariables false
open Go.RowKit Go.Shelf

/-- what Go's library has laid -/
structure Glob (w : World) : Prop where
  maxLen : ∃ m, w.cell? ⟨0, 0, none⟩ = some (.int .i64 m)
  tab : Lib.TabIs Tryz.prog w "internal/strconv.uint64pow10" .u64 Lib.pow10Tab
theorem ext_var {w w' : World} (h : Ext w w') {name : String} {c : Array Value} (hv : w.var? Tryz.prog name = some c) : w'.var? Tryz.prog name = some c := by
  unfold World.var? at hv ⊢
  obtain ⟨g, hg, hc⟩ := Option.bind_eq_some_iff.1 hv
  rw [hg, Option.bind_some]
  cases ho : w.heap[g]? with
  | none => rw [ho] at hc; simp at hc
  | some o => rw [ho] at hc; rw [h.heap ho]; exact hc
theorem Glob.mono {w w' : World} (h : Glob w) (hx : Ext w w') : Glob w' := by
  obtain ⟨⟨m, hm⟩, ht⟩ := h
  exact ⟨⟨m, hx.cell hm⟩, ext_var hx ht⟩

def cutB (s sep : List UInt8) : List UInt8 × List UInt8 × Bool := Lib.cut s sep
def isSymbolB (s : ByteArray) : Bool := (cutB s.data.toList [46]).2.2 && (isNameB ⟨(cutB s.data.toList [46]).1.toArray⟩ && isNameB ⟨(cutB s.data.toList [46]).2.1.toArray⟩)
theorem cutB_le (s sep : List UInt8) : (cutB s sep).1.length ≤ s.length ∧ (cutB s sep).2.1.length ≤ s.length := by
  unfold cutB Lib.cut
  split
  · exact ⟨by simp [List.length_take]; omega, by simp⟩
  · exact ⟨Nat.le_refl _, by simp⟩
theorem size_mk (l : List UInt8) : (⟨l.toArray⟩ : ByteArray).size = l.length := by show l.toArray.size = _; simp
theorem toList_length (s : ByteArray) : s.data.toList.length = s.size := by simp

set_option maxRecDepth 100000 in
set_option maxHeartbeats 1000000 in
theorem isSymbol_any (s : ByteArray) (w : World) (hs : s.size ≤ 1048576) (hG : Glob w) : Calls Tryz.prog 29 #[.string s] w (Ret w (.bool (isSymbolB s))) := by
  obtain ⟨m, hm⟩ := hG.maxLen
  have hcut := Tryz.strings_Cut s ⟨#[46]⟩ m w (by omega) hm
  have hle := cutB_le s.data.toList [46]
  rw [toList_length] at hle
  change Calls Tryz.prog 70 _ w (fun e w' => e = .returned (.tuple #[.string ⟨(cutB s.data.toList [46]).1.toArray⟩, .string ⟨(cutB s.data.toList [46]).2.1.toArray⟩, .bool (cutB s.data.toList [46]).2.2]) ∧ ∃ n, w' = w.drewN n) at hcut
  unfold isSymbolB
  have h1 : (⟨(cutB s.data.toList [46]).1.toArray⟩ : ByteArray).size ≤ 1048576 := by rw [size_mk]; omega
  have h2 : (⟨(cutB s.data.toList [46]).2.1.toArray⟩ : ByteArray).size ≤ 1048576 := by rw [size_mk]; omega
  generalize (⟨(cutB s.data.toList [46]).1.toArray⟩ : ByteArray) = u at hcut h1 ⊢
  generalize (⟨(cutB s.data.toList [46]).2.1.toArray⟩ : ByteArray) = n at hcut h2 ⊢
  generalize (cutB s.data.toList [46]).2.2 = d at hcut ⊢
  have Hc := Lib.hid hcut
  have h3 := fun w => isName_any u w h1
  have h4 := fun w => isName_any n w h2
  generalize isNameB u = bu at h3 ⊢
  generalize isNameB n = bn at h4 ⊢
  have H3 := Lib.hid h3
  have H4 := Lib.hid h4
  clear hcut hle hm hG h1 h2 h3 h4 hs
  cases d
  · go_enter Tryz.func29, Tryz.ntmps29
    go_wp2_with fail
    refine Hc.out.mono ?_
    rintro e w1 ⟨rfl, n1, rfl⟩
    go_wp2_with fail
    go_ret
    exact ⟨rfl, (Ext.refl _).drewN _⟩
  · cases bu
    · go_enter Tryz.func29, Tryz.ntmps29
      go_wp2_with fail
      refine Hc.out.mono ?_
      rintro e w1 ⟨rfl, n1, rfl⟩
      go_wp2_with fail
      refine (H3.out _).mono ?_
      rintro e w1 ⟨rfl, hx1⟩
      go_wp2_with fail
      go_ret
      exact ⟨rfl, ((Ext.refl _).drewN _).trans hx1⟩
    · go_enter Tryz.func29, Tryz.ntmps29
      go_wp2_with fail
      refine Hc.out.mono ?_
      rintro e w1 ⟨rfl, n1, rfl⟩
      go_wp2_with fail
      refine (H3.out _).mono ?_
      rintro e w1 ⟨rfl, hx1⟩
      go_wp2_with fail
      refine (H4.out _).mono ?_
      rintro e w2 ⟨rfl, hx2⟩
      go_wp2_with fail
      go_ret
      exact ⟨rfl, (((Ext.refl _).drewN _).trans hx1).trans hx2⟩

/-! ### slices.Index and Contains at bytes -/
set_option maxRecDepth 100000 in
set_option maxHeartbeats 1000000 in
theorem index_u8 (w : World) (v : Value) (xs : List Int) (x : Int) (hv : Sl byteE w v xs) (hn : xs.length ≤ 1048576) :
    Calls Tryz.prog 245 #[v, .int .u8 x] w (Ret w (.int .i64 (idxF (fun y => x == y) xs))) := by
  obtain ⟨A, cap, rfl, hs⟩ := hv.byte
  have Hs := Lib.hid hs
  clear hs hv
  go_enter Tryz.func245, Tryz.ntmps245
  go_wp2_with fail
  go_loopw [8] (fun k wr => ∃ j : Nat, j ≤ xs.length ∧ k = .int .i64 j ∧ Ext w wr ∧ Hid (∀ i (h : i < xs.length), i < j → (fun y => x == y) xs[i] = false)) (fun k _ => xs.length - (intOf k).toNat)
  case atStart => exact ⟨0, by omega, by simp, Ext.refl _, fun i _ h => by omega⟩
  case round =>
    obtain ⟨j, hj, rfl, hx, hno⟩ := hrel
    by_cases hlt : j < xs.length
    · obtain ⟨b, off, rfl, h0⟩ := Hs.out j hlt
      have h0 := hx.cell h0
      cases hpj : (x == xs[j])
      · have Hpj := Lib.hid hpj
        go_wp2_with fail
        go_roundw
        case rel => exact ⟨j + 1, by omega, by go_num, hx, fun i h hi => by
            by_cases e : i = j
            · subst e; exact Hpj.out
            · exact hno.out i h (by omega)⟩
        case measure => simp [intOf]; omega
      · have Hpj := Lib.hid hpj
        go_wp2_with fail
        go_ret
        exact ⟨by rw [idxF_found hlt hno.out Hpj.out]; rfl, hx⟩
    · go_wp2_with fail
      go_ret
      exact ⟨by rw [idxF_none hlt hno.out]; rfl, hx⟩

set_option maxRecDepth 100000 in
theorem contains_u8 (w : World) (v : Value) (xs : List Int) (x : Int) (hv : Sl byteE w v xs) (hn : xs.length ≤ 1048576) :
    Calls Tryz.prog 229 #[v, .int .u8 x] w (Ret w (.bool (xs.any fun y => x == y))) := by
  have hc := index_u8 w v xs x hv hn
  rw [← idxF_any]
  clear hv
  generalize idxF (fun y => x == y) xs = r at hc ⊢
  have Hc := Lib.hid hc
  clear hc
  go_enter Tryz.func229, Tryz.ntmps229
  go_wp2_with fail
  refine Hc.out.mono ?_
  rintro e w1 ⟨rfl, hx1⟩
  go_wp2_with fail
  go_ret
  exact ⟨rfl, hx1⟩

/-- an index of a type of some kinds -/
def overB (g : Graph) (i : Int) (kinds : List Int) : Bool := hasB g.length i && kinds.any fun y => (g[i.toNat]?.map (·.kind)).getD 0 == y
theorem hasB_iff {n : Nat} {i : Int} : hasB n i = true ↔ 0 ≤ i ∧ i < n := by
  simp only [hasB, inB, Bool.and_eq_true, decide_eq_true_eq]; omega
set_option maxRecDepth 100000 in
set_option maxHeartbeats 1000000 in
theorem over_any (w : World) (gv v : Value) (g : Graph) (i : Int) (kinds : List Int) (hg : Sl tyE w gv g) (hv : Sl byteE w v kinds) (hn : g.length ≤ 1048576) (hk : kinds.length ≤ 1048576) :
    Calls Tryz.prog 196 #[.agg #[gv], .int .i64 i, v] w (Ret w (.bool (overB g i kinds))) := by
  obtain ⟨A, cap, rfl, hs⟩ := hg.ty
  have hh := fun w => has_any w A g.length cap i hn
  unfold overB
  have Hv := Lib.hid hv
  have Hg := Lib.hid hg
  clear hg hv
  cases hb : hasB g.length i
  · rw [hb] at hh
    have Hh := Lib.hid hh
    clear hh hs hb
    go_enter Tryz.func196, Tryz.ntmps196
    go_wp2_with fail
    refine (Hh.out _).mono ?_
    rintro e w1 ⟨rfl, hx1⟩
    go_wp2_with fail
    go_ret
    exact ⟨rfl, ((Ext.refl _).alloc _).trans hx1⟩
  · rw [hb] at hh
    have Hh := Lib.hid hh
    obtain ⟨h0, h1⟩ := hasB_iff.1 hb
    obtain ⟨j, rfl⟩ := Int.eq_ofNat_of_zero_le h0
    have hlt : j < g.length := by omega
    obtain ⟨b, off, vp, vm, vo, rfl, hat, hof⟩ := hs j hlt
    have hc0 := hat.c0
    have hkind : (g[(j : Int).toNat]?.map (·.kind)).getD 0 = g[j].kind := by simp [List.getElem?_eq_getElem hlt]
    rw [hkind]
    have Hcon := Lib.hid (fun w' (hx : Ext w w') => contains_u8 w' v kinds g[j].kind (Hv.out.mono hx) hk)
    generalize (kinds.any fun y => g[j].kind == y) = r at Hcon ⊢
    clear hh hs hb h0 hof hat hkind
    go_enter Tryz.func196, Tryz.ntmps196
    go_wp2_with fail
    refine (Hh.out _).mono ?_
    rintro e w1 ⟨rfl, hx1⟩
    have hx2 := ((Ext.refl w).alloc _).trans hx1
    have hc1 := hx2.cell hc0
    have hc2 := hx1.cell (World.cell?_alloc_new (w := w) #[.slice (some ⟨b, off, none⟩) g.length cap] 77 0)
    have hi1 : (0 : Int) ≤ (j : Int) := by omega
    clear hc0
    go_wp2_with fail
    refine (Hcon.out _ hx2).mono ?_
    rintro e w2 ⟨rfl, hx3⟩
    go_wp2_with fail
    go_ret
    exact ⟨rfl, hx2.trans hx3⟩
end Go.Proofs.YtldnjnnhfeobdaaGreatDoor
/- Contracts: methods that agree; what of a type is plain; names out of records. Conditions: lengths below 2^20. -/
namespace Go.Proofs.YtldnjnnhfeobdaaGreatDoor
set_option linter.all false
set_option linter.unusedSimpArgs false
set_option linter.unusedVariables false
open Go.RowKit Go.Shelf

def strEq (x y : ByteArray) : Bool := x.toList == y.toList
def sameMethodB (a b : Method) : Bool :=
  strEq a.name b.name && (strEq a.proc b.proc && (decide (a.args.length = b.args.length) && ((decide (a.result < 0) == decide (b.result < 0)) && eqF strEq a.raises b.raises)))

set_option maxRecDepth 100000 in
set_option maxHeartbeats 4000000 in
theorem sameMethods_any (w : World) (a b : Method) (A B A2 B2 : Option Addr) (c d c2 d2 : Nat)
    (h1 : Sl strE w (.slice A2 a.raises.length c2) a.raises) (h2 : Sl strE w (.slice B2 b.raises.length d2) b.raises) (hn : a.raises.length ≤ 1048576) (hm : b.raises.length ≤ 1048576) :
    Calls Tryz.prog 106 #[.agg #[.string a.name, .slice A a.args.length c, .int .i64 a.result, .slice A2 a.raises.length c2, .string a.proc], .agg #[.string b.name, .slice B b.args.length d, .int .i64 b.result, .slice B2 b.raises.length d2, .string b.proc]] w
      (Ret w (.bool (sameMethodB a b))) := by
  have he := fun (w' : World) (hx : Ext w w') => equal_str w' _ _ _ _ (h1.mono hx) (h2.mono hx) hn hm
  change ∀ w', _ → Calls _ _ _ _ (Ret w' (.bool (eqF strEq a.raises b.raises))) at he
  have hr0 : sameMethodB a b = (strEq a.name b.name && (strEq a.proc b.proc && (decide (a.args.length = b.args.length) && ((decide (a.result < 0) == decide (b.result < 0)) && eqF strEq a.raises b.raises)))) := rfl
  rw [hr0]
  clear hr0 h1 h2
  generalize eqF strEq a.raises b.raises = r at he ⊢
  have He := Lib.hid he
  clear he hn hm
  cases c1 : strEq a.name b.name
  · have c1' : (a.name.toList == b.name.toList) = false := c1
    clear c1
    go_enter Tryz.func106, Tryz.ntmps106
    go_wp2_with fail
    go_ret
    exact ⟨rfl, ((Ext.refl _).alloc _).alloc _⟩
  · have c1' : (a.name.toList == b.name.toList) = true := c1
    clear c1
    cases c2' : strEq a.proc b.proc
    · have c3' : (a.proc.toList == b.proc.toList) = false := c2'
      clear c2'
      go_enter Tryz.func106, Tryz.ntmps106
      go_wp2_with fail
      go_ret
      exact ⟨rfl, ((Ext.refl _).alloc _).alloc _⟩
    · have c3' : (a.proc.toList == b.proc.toList) = true := c2'
      clear c2'
      by_cases c4 : a.args.length = b.args.length
      · have c5 : ((a.args.length : Int) == (b.args.length : Int)) = true := by simp [c4]
        have C4 := Lib.hid c4
        rw [decide_eq_true c4]
        clear c4
        by_cases p : a.result < 0 <;> by_cases q : b.result < 0
        all_goals
          have P := Lib.hid p
          have Q := Lib.hid q
          (first | rw [decide_eq_true p] | rw [decide_eq_false p])
          (first | rw [decide_eq_true q] | rw [decide_eq_false q])
        · go_enter Tryz.func106, Tryz.ntmps106
          go_wp2_with fail
          refine (He.out _ (((Ext.refl _).alloc _).alloc _)).mono ?_
          rintro e w1 ⟨rfl, hx1⟩
          go_wp2_with fail
          go_ret
          exact ⟨rfl, (((Ext.refl _).alloc _).alloc _).trans hx1⟩
        · go_enter Tryz.func106, Tryz.ntmps106
          go_wp2_with fail
          go_ret
          exact ⟨rfl, ((Ext.refl _).alloc _).alloc _⟩
        · go_enter Tryz.func106, Tryz.ntmps106
          go_wp2_with fail
          go_ret
          exact ⟨rfl, ((Ext.refl _).alloc _).alloc _⟩
        · go_enter Tryz.func106, Tryz.ntmps106
          go_wp2_with fail
          refine (He.out _ (((Ext.refl _).alloc _).alloc _)).mono ?_
          rintro e w1 ⟨rfl, hx1⟩
          go_wp2_with fail
          go_ret
          exact ⟨rfl, (((Ext.refl _).alloc _).alloc _).trans hx1⟩
      · have c5 : ((a.args.length : Int) == (b.args.length : Int)) = false := by simp; omega
        rw [decide_eq_false c4]
        clear c4
        go_enter Tryz.func106, Tryz.ntmps106
        go_wp2_with fail
        go_ret
        exact ⟨rfl, ((Ext.refl _).alloc _).alloc _⟩

/-- a type as it stands as a value -/
def tyV (t : Ty) (vp vm vo : Value) : Value := .agg #[.int .u8 t.kind, .int .i64 t.low, .int .i64 t.high, .bool t.branded, .string t.brand, .string t.opaq, .int .i64 t.super, vp, vm, vo]
def plainV (t : Ty) : Value := .agg #[.int .u8 t.kind, .int .i64 t.low, .int .i64 t.high, .bool t.branded, .string t.brand, .string t.opaq, .int .i64 0]
set_option maxRecDepth 100000 in
set_option maxHeartbeats 1000000 in
theorem plainOf_any (w : World) (t : Ty) (A B C : Option Addr) (a b c a' b' c' : Nat) :
    Calls Tryz.prog 78 #[.agg #[.int .u8 t.kind, .int .i64 t.low, .int .i64 t.high, .bool t.branded, .string t.brand, .string t.opaq, .int .i64 t.super, .slice A a a', .slice B b b', .slice C c c']] w (Ret w (plainV t)) := by
  go_enter Tryz.func78, Tryz.ntmps78
  go_wp2_with fail
  exact bodyPost_ret (v := plainV t) (by simp [results, Tryz.results78, go_sem, plainV]) rfl ⟨rfl, ((Ext.refl _).alloc _).alloc _⟩

/-! ### the names out of records -/
set_option maxRecDepth 100000 in
theorem name193 (w : World) (a : ByteArray) (n : Int) : Calls Tryz.prog 193 #[.agg #[.string a, .int .i64 n]] w (Ret w (.string a)) := by
  go_enter Tryz.func193, Tryz.ntmps193
  go_wp2_with fail
  go_ret
  exact ⟨rfl, (Ext.refl _).alloc _⟩
set_option maxRecDepth 100000 in
theorem name194 (w : World) (a : ByteArray) (n : Int) : Calls Tryz.prog 194 #[.agg #[.string a, .int .i64 n]] w (Ret w (.string a)) := by
  go_enter Tryz.func194, Tryz.ntmps194
  go_wp2_with fail
  go_ret
  exact ⟨rfl, (Ext.refl _).alloc _⟩
set_option maxRecDepth 100000 in
theorem name223 (w : World) (a b : ByteArray) : Calls Tryz.prog 223 #[.agg #[.string a, .string b]] w (Ret w (.string a)) := by
  go_enter Tryz.func223, Tryz.ntmps223
  go_wp2_with fail
  go_ret
  exact ⟨rfl, (Ext.refl _).alloc _⟩
set_option maxRecDepth 100000 in
theorem name221 (w : World) (a b : ByteArray) (A B : Option Addr) (n m k l : Nat) (r : Int) : Calls Tryz.prog 221 #[.agg #[.string a, .slice A n m, .int .i64 r, .slice B k l, .string b]] w (Ret w (.string a)) := by
  go_enter Tryz.func221, Tryz.ntmps221
  go_wp2_with fail
  go_ret
  exact ⟨rfl, (Ext.refl _).alloc _⟩
theorem res_str {w : World} {s : ByteArray} {f : Nat} {args : Array Value} (h : Calls Tryz.prog f args w (Ret w (.string s))) : Calls Tryz.prog f args w (RetP w (Res strE w s)) :=
  h.mono fun e w' ⟨he, hx⟩ => ⟨_, he, ⟨[.string s], rfl, rfl⟩, hx⟩
theorem map193 (w : World) (xs : List Part) : MapP partE strE w 193 #[] xs Part.name :=
  ⟨enters_of Tryz.func193 (by kernel_rfl) rfl, by rintro x _ w' A hx ⟨cs, rfl, rfl⟩; exact res_str (name193 w' x.name x.type)⟩
theorem map194 (w : World) (xs : List Part) : MapP partE strE w 194 #[] xs Part.name :=
  ⟨enters_of Tryz.func194 (by kernel_rfl) rfl, by rintro x _ w' A hx ⟨cs, rfl, rfl⟩; exact res_str (name194 w' x.name x.type)⟩
theorem map223 (w : World) (xs : List Over) : MapP overE strE w 223 #[] xs Over.name :=
  ⟨enters_of Tryz.func223 (by kernel_rfl) rfl, by rintro x _ w' A hx ⟨cs, rfl, rfl⟩; exact res_str (name223 w' x.name x.proc)⟩
theorem map221 (w : World) (xs : List Method) : MapP methodE strE w 221 #[] xs Method.name :=
  ⟨enters_of Tryz.func221 (by kernel_rfl) rfl, by
    rintro x _ w' A hx ⟨cs, ⟨va, vr, rfl, ⟨_, _, rfl, _⟩, ⟨_, _, rfl, _⟩⟩, rfl⟩
    exact res_str (name221 w' _ _ _ _ _ _ _ _ _)⟩
end Go.Proofs.YtldnjnnhfeobdaaGreatDoor
/- A map of the call's own, told as a function from keys to values. Keys: strings, ints, pairs of ints. No condition. -/
namespace Go.Proofs.YtldnjnnhfeobdaaGreatDoor
set_option linter.all false
set_option linter.unusedSimpArgs false
set_option linter.unusedVariables false
open Go.RowKit Go.Shelf

/-- how keys of type kt stand as values -/
structure KeyEnc (P : Program) (kt : TypeId) (κ : Type) where
  enc : κ → Value
  inj : ∀ a b, enc a = enc b → a = b
  check : ∀ empty w k, (Instr.checkKey empty 10000 kt (enc k)).run P w = .ok () w
  find : ∀ w k (es : List MapEntry), (∀ e ∈ es, ∃ k', e.key = enc k') → ∃ r, (Instr.findKey kt (enc k) es).run P w = .ok r w ∧
    (match r with | none => ∀ e ∈ es, e.key ≠ enc k | some (i, v) => ∃ e, es[i]? = some e ∧ e.key = enc k ∧ e.val = v)
  stays : ∀ w k, (Instr.keyThatStays (enc k) (enc k)).run P w = .ok (enc k) w

theorem find_now (P : Program) (kt : TypeId) (d : TypeDesc) (hd : P.underlying kt = some d) {κ : Type} (enc : κ → Value)
    (hs : ∀ a b, (Instr.sameNow d (enc a) (enc b) = some true ∧ enc a = enc b) ∨ (Instr.sameNow d (enc a) (enc b) = some false ∧ enc a ≠ enc b)) :
    ∀ w k (es : List MapEntry), (∀ e ∈ es, ∃ k', e.key = enc k') → ∃ r, (Instr.findKey kt (enc k) es).run P w = .ok r w ∧
      (match r with | none => ∀ e ∈ es, e.key ≠ enc k | some (i, v) => ∃ e, es[i]? = some e ∧ e.key = enc k ∧ e.val = v) := by
  intro w k es hes
  have key : ∀ (l : List MapEntry) (i : Nat), (∀ e ∈ l, ∃ k', e.key = enc k') → ∃ r, Instr.findNow d (enc k) l i = some r ∧
      (match r with | none => ∀ e ∈ l, e.key ≠ enc k | some (j, v) => ∃ m e, j = i + m ∧ l[m]? = some e ∧ e.key = enc k ∧ e.val = v) := by
    intro l
    induction l with
    | nil => intro i _; exact ⟨none, rfl, by simp⟩
    | cons e l ih =>
      intro i hl
      obtain ⟨k', hk'⟩ := hl e (by simp)
      rcases hs k k' with ⟨h1, h2⟩ | ⟨h1, h2⟩
      · refine ⟨some (i, e.val), ?_, 0, e, rfl, rfl, by rw [hk', h2], rfl⟩
        simp only [Instr.findNow, hk', h1]
      · obtain ⟨r, hr, hm⟩ := ih (i + 1) (fun e he => hl e (by simp [he]))
        refine ⟨r, ?_, ?_⟩
        · simp only [Instr.findNow, hk', h1, hr]
        · cases r with
          | none =>
            intro e' he'
            rcases List.mem_cons.1 he' with rfl | he'
            · rw [hk']; exact fun h => h2 h.symm
            · exact hm e' he'
          | some q =>
            obtain ⟨j, v⟩ := q
            obtain ⟨m, e', h1, h2, h3⟩ := hm
            exact ⟨m + 1, e', by omega, by simpa using h2, h3⟩
  obtain ⟨r, hr, hm⟩ := key es 0 hes
  refine ⟨r, ?_, ?_⟩
  · simp [Instr.findKey, run_underlying hd, hr]
  · cases r with
    | none => exact hm
    | some q =>
      obtain ⟨j, v⟩ := q
      obtain ⟨m, e', h1, h2, h3⟩ := hm
      exact ⟨e', by rw [h1, Nat.zero_add]; exact h2, h3⟩

theorem find_asking (P : Program) (kt : TypeId) (d : TypeDesc) (hd : P.underlying kt = some d) {κ : Type} (enc : κ → Value) (hn : ∀ k (es : List MapEntry) e, es.head? = some e → (∃ k', e.key = enc k') → Instr.findNow d (enc k) es 0 = none)
    (hs : ∀ a b w, ((Op.equal kt (enc a) (enc b)).run P w = .ok true w ∧ enc a = enc b) ∨ ((Op.equal kt (enc a) (enc b)).run P w = .ok false w ∧ enc a ≠ enc b)) :
    ∀ w k (es : List MapEntry), (∀ e ∈ es, ∃ k', e.key = enc k') → ∃ r, (Instr.findKey kt (enc k) es).run P w = .ok r w ∧
      (match r with | none => ∀ e ∈ es, e.key ≠ enc k | some (i, v) => ∃ e, es[i]? = some e ∧ e.key = enc k ∧ e.val = v) := by
  intro w k es hes
  have key : ∀ (l : List MapEntry) (i : Nat), (∀ e ∈ l, ∃ k', e.key = enc k') → ∃ r, (Instr.findAsking kt (enc k) l i).run P w = .ok r w ∧
      (match r with | none => ∀ e ∈ l, e.key ≠ enc k | some (j, v) => ∃ m e, j = i + m ∧ l[m]? = some e ∧ e.key = enc k ∧ e.val = v) := by
    intro l
    induction l with
    | nil => intro i _; exact ⟨none, by simp [Instr.findAsking], by simp⟩
    | cons e l ih =>
      intro i hl
      obtain ⟨k', hk'⟩ := hl e (by simp)
      rcases hs k k' w with ⟨h1, h2⟩ | ⟨h1, h2⟩
      · refine ⟨some (i, e.val), ?_, 0, e, rfl, rfl, by rw [hk', h2], rfl⟩
        simp [Instr.findAsking, hk', h1]
      · obtain ⟨r, hr, hm⟩ := ih (i + 1) (fun e he => hl e (by simp [he]))
        refine ⟨r, ?_, ?_⟩
        · simp [Instr.findAsking, hk', h1, hr]
        · cases r with
          | none =>
            intro e' he'
            rcases List.mem_cons.1 he' with rfl | he'
            · rw [hk']; exact fun h => h2 h.symm
            · exact hm e' he'
          | some q =>
            obtain ⟨j, v⟩ := q
            obtain ⟨m, e', h1, h2, h3⟩ := hm
            exact ⟨m + 1, e', by omega, by simpa using h2, h3⟩
  cases es with
  | nil => exact ⟨none, by simp [Instr.findKey, run_underlying hd, Instr.findNow], by simp⟩
  | cons e l =>
    obtain ⟨r, hr, hm⟩ := key (e :: l) 0 hes
    refine ⟨r, ?_, ?_⟩
    · have := hn k (e :: l) e rfl (hes e (by simp))
      simp [Instr.findKey, run_underlying hd, this, hr]
    · cases r with
      | none => exact hm
      | some q =>
        obtain ⟨j, v⟩ := q
        obtain ⟨m, e', h1, h2, h3⟩ := hm
        exact ⟨e', by rw [h1, Nat.zero_add]; exact h2, h3⟩

/-- block b is a map whose entries are the pairs of f -/
def MapF {P : Program} {kt : TypeId} {κ : Type} (K : KeyEnc P kt κ) (w : World) (b : Nat) (f : κ → Option Value) : Prop :=
  ∃ es clock, w.heap[b]? = some (.map es clock) ∧ (∀ e ∈ es.toList, ∃ k, e.key = K.enc k ∧ f k = some e.val) ∧ (∀ k v, f k = some v → ∃ e ∈ es.toList, e.key = K.enc k) ∧
    (∀ i j (hi : i < es.size) (hj : j < es.size), es[i].key = es[j].key → i = j)

section
variable {P : Program} {kt : TypeId} {κ : Type} {K : KeyEnc P kt κ} {w : World} {b : Nat} {f : κ → Option Value}
theorem MapF.made (K : KeyEnc P kt κ) (w : World) : MapF K (w.alloc (.map #[] 0)) w.heap.size (fun _ => none) :=
  ⟨#[], 0, (MapKept.heap_alloc w _).1, by simp, by simp, by simp⟩
theorem MapF.ext {w' : World} (h : MapF K w b f) (hx : Ext w w') : MapF K w' b f := by
  obtain ⟨es, clock, hb, h1, h2⟩ := h
  exact ⟨es, clock, hx.heap hb, h1, h2⟩
theorem MapF.kept {w' : World} (h : MapF K w b f) (hb' : w'.heap[b]? = w.heap[b]?) : MapF K w' b f := by
  obtain ⟨es, clock, hb, h1, h2⟩ := h
  exact ⟨es, clock, hb'.trans hb, h1, h2⟩
theorem MapF.lt (h : MapF K w b f) : b < w.heap.size := by
  obtain ⟨es, clock, hb, _⟩ := h
  exact (Array.getElem?_eq_some_iff.1 hb).1
theorem MapF.lookup (h : MapF K w b f) {t e : TypeId} (ht : P.underlying t = some (.map kt e)) {z : Value} (hz : (zeroValue e).run P w = .ok z w) (k : κ) :
    (Instr.lookup t (.map (some b)) (K.enc k) false).run P w = .ok ((f k).getD z) w := by
  obtain ⟨es, clock, hb, h1, h2, _⟩ := h
  obtain ⟨r, hr, hm⟩ := K.find w k es.toList (fun e he => let ⟨k', h, _⟩ := h1 e he; ⟨k', h⟩)
  have hc := K.check es.isEmpty w k
  cases r with
  | none =>
    have hn : f k = none := by
      cases hf : f k with
      | none => rfl
      | some v => obtain ⟨e, he, hk⟩ := h2 k v hf; exact absurd hk (hm e he)
    simp [Instr.lookup, run_underlying ht, getObj, Sem.run, hb, hc, hr, hz, hn]
  | some q =>
    obtain ⟨i, v⟩ := q
    obtain ⟨e, he, hk, hv⟩ := hm
    obtain ⟨k', h3, h4⟩ := h1 e (List.mem_of_getElem? he)
    have : k' = k := K.inj _ _ (h3.symm.trans hk)
    subst this
    simp [Instr.lookup, run_underlying ht, getObj, Sem.run, hb, hc, hr, h4, hv]
/-- the map with one entry more, or another one -/
def put [DecidableEq κ] (f : κ → Option Value) (k : κ) (v : Value) : κ → Option Value := fun k' => if k' = k then some v else f k'

theorem MapF.update [DecidableEq κ] (h : MapF K w b f) {t e : TypeId} (ht : P.underlying t = some (.map kt e)) (k : κ) (v : Value) :
    ∃ w', (Instr.mapUpdate t (.map (some b)) (K.enc k) v).run P w = .ok () w' ∧ MapF K w' b (put f k v) ∧ w.grownBy w' (some b) := by
  obtain ⟨es, clock, hb, h1, h2, hd⟩ := h
  obtain ⟨r, hr, hm⟩ := K.find w k es.toList (fun e he => let ⟨k', h, _⟩ := h1 e he; ⟨k', h⟩)
  have hc := K.check false w k
  have hlt := (Array.getElem?_eq_some_iff.1 hb).1
  have hset : ∀ o, ({ w with heap := w.heap.setIfInBounds b o } : World).heap[b]? = some o := fun o => by simp [hlt]
  have hgrow : ∀ o, w.grownBy ({ w with heap := w.heap.setIfInBounds b o } : World) (some b) := fun o =>
    ⟨rfl, rfl, rfl, by simp, fun i _ hi => by
      have : b ≠ i := fun e => hi (by rw [e])
      simp [Array.getElem?_setIfInBounds, this]⟩
  cases r with
  | none =>
    refine ⟨_, ?_, ⟨es.push { key := K.enc k, val := v, born := clock }, clock + 1, hset _, ?_, ?_, ?_⟩, hgrow _⟩
    · simp [Instr.mapUpdate, run_underlying ht, getObj, setObj, Sem.run, hb, hc, hr]
    · intro e he
      simp only [Array.toList_push, List.mem_append, List.mem_singleton] at he
      rcases he with he | rfl
      · obtain ⟨k', h3, h4⟩ := h1 e he
        refine ⟨k', h3, ?_⟩
        have : k' ≠ k := fun e' => hm e he (by rw [h3, e'])
        simp [put, this, h4]
      · exact ⟨k, rfl, by simp [put]⟩
    · intro k' v' hv
      by_cases e : k' = k
      · subst e
        exact ⟨{ key := K.enc k', val := v, born := clock }, by simp, rfl⟩
      · simp only [put, e, if_false] at hv
        obtain ⟨e', he', hk'⟩ := h2 k' v' hv
        exact ⟨e', by simp [he'], hk'⟩
    · intro i j hi hj hij
      simp only [Array.size_push] at hi hj
      by_cases h3 : i < es.size <;> by_cases h4 : j < es.size
      · rw [Array.getElem_push_lt h3, Array.getElem_push_lt h4] at hij
        exact hd i j h3 h4 hij
      · have e4 : j = es.size := by omega
        subst e4
        rw [Array.getElem_push_lt h3, Array.getElem_push_eq] at hij
        exact absurd hij (hm es[i] (by simp))
      · have e3 : i = es.size := by omega
        subst e3
        rw [Array.getElem_push_lt h4, Array.getElem_push_eq] at hij
        exact absurd hij.symm (hm es[j] (by simp))
      · omega
  | some q =>
    obtain ⟨i, v0⟩ := q
    obtain ⟨e0, he0, hk0, hv0⟩ := hm
    have hst := K.stays w k
    have hi : i < es.size := by
      have := (List.getElem?_eq_some_iff.1 he0).1
      simpa using this
    have hget : es[i] = e0 := by
      have := (List.getElem?_eq_some_iff.1 he0).2
      simpa using this
    refine ⟨_, ?_, ⟨es.modify i (fun e => { e with key := K.enc k, val := v }), clock, hset _, ?_, ?_, ?_⟩, hgrow _⟩
    · have hk : (((es[i]?).map (·.key)).getD (K.enc k)) = K.enc k := by rw [Array.getElem?_eq_getElem hi, hget]; exact hk0
      simp [Instr.mapUpdate, run_underlying ht, getObj, setObj, Sem.run, hb, hc, hr, hget, hi, hk0, hst]
    · intro e he
      obtain ⟨j, hj, rfl⟩ := List.mem_iff_getElem.1 he
      have hj' : j < es.size := by simpa using hj
      simp only [Array.getElem_toList, Array.getElem_modify]
      split
      · exact ⟨k, rfl, by simp [put]⟩
      · rename_i hne
        obtain ⟨k', h3, h4⟩ := h1 es[j] (by simp)
        refine ⟨k', h3, ?_⟩
        have e : ¬ k' = k := by
          rintro rfl
          exact hne (hd i j hi hj' (by rw [hget, hk0, h3]))
        simp [put, e, h4]
    · intro k' v' hv
      by_cases e : k' = k
      · subst e
        refine ⟨{ es[i] with key := K.enc k', val := v }, ?_, rfl⟩
        rw [List.mem_iff_getElem]
        exact ⟨i, by simpa using hi, by simp⟩
      · simp only [put, e, if_false] at hv
        obtain ⟨e', he', hk'⟩ := h2 k' v' hv
        obtain ⟨j, hj, rfl⟩ := List.mem_iff_getElem.1 he'
        have hj' : j < es.size := by simpa using hj
        refine ⟨es[j], ?_, hk'⟩
        rw [List.mem_iff_getElem]
        refine ⟨j, by simpa using hj', ?_⟩
        simp only [Array.getElem_toList, Array.getElem_modify]
        rw [if_neg]
        rintro rfl
        rw [Array.getElem_toList, hget, hk0] at hk'
        exact e (K.inj _ _ hk').symm
    · have hsame : ∀ (m : Nat) (hm : m < es.size), ((es.modify i (fun e => { e with key := K.enc k, val := v }))[m]'(by simpa using hm)).key = es[m].key := by
        intro m hm
        simp only [Array.getElem_modify]
        split
        · rename_i h; subst h; rw [hget, hk0]
        · rfl
      intro m j hm hj hij
      have hm' : m < es.size := by simpa using hm
      have hj' : j < es.size := by simpa using hj
      rw [hsame m hm', hsame j hj'] at hij
      exact hd m j hm' hj' hij
end

/-! ### the keys that are used -/
theorem ba_toList_inj {a b : ByteArray} (h : a.toList = b.toList) : a = b := by
  rw [ByteArray.toList_eq, ByteArray.toList_eq] at h
  obtain ⟨⟨x⟩⟩ := a
  obtain ⟨⟨y⟩⟩ := b
  simp at h
  rw [h]
theorem ba_beq (a b : ByteArray) : (a == b) = decide (a = b) := by
  rw [beq_toListBytes, Bool.eq_iff_iff]
  simp only [beq_iff_eq, decide_eq_true_eq]
  exact ⟨ba_toList_inj, fun h => by rw [h]⟩
def strK {P : Program} {kt : TypeId} (h : P.underlying kt = some .string) : KeyEnc P kt ByteArray where
  enc s := .string s
  inj := by rintro a b h; injection h
  check := fun empty w k => by
    obtain ⟨d, hd⟩ : ∃ d, (10000 : Nat) = d + 1 := ⟨9999, rfl⟩
    rw [hd]
    simp [Instr.checkKey, run_underlying h]
  find := find_now P kt .string h _ (fun a b => by
    by_cases e : a = b
    · subst e; exact .inl ⟨by simp [Instr.sameNow, ba_beq], rfl⟩
    · exact .inr ⟨by simp [Instr.sameNow, e, ba_beq], fun h => by injection h; contradiction⟩)
  stays := fun w k => by simp [Instr.keyThatStays, Instr.sameBits, ba_beq]
def intK {P : Program} {kt : TypeId} (h : P.underlying kt = some (.int .i64)) : KeyEnc P kt Int where
  enc n := .int .i64 n
  inj := by rintro a b h; injection h
  check := fun empty w k => by
    obtain ⟨d, hd⟩ : ∃ d, (10000 : Nat) = d + 1 := ⟨9999, rfl⟩
    rw [hd]
    simp [Instr.checkKey, run_underlying h]
  find := find_now P kt (.int .i64) h _ (fun a b => by
    by_cases e : a = b
    · subst e; exact .inl ⟨by simp [Instr.sameNow], rfl⟩
    · exact .inr ⟨by simp [Instr.sameNow, e], fun h => by injection h; contradiction⟩)
  stays := fun w k => by simp [Instr.keyThatStays, Instr.sameBits]

/-! ### at the operation -/
theorem wpList_lookup_F {P : Program} {kt : TypeId} {κ : Type} (K : KeyEnc P kt κ) {w : World} {ops : Array Oper} {rest : List Oper} {o : Oper} {a : Act} {Q : Exit → Act → World → Prop}
    (hg : o.guard = none) (m x : Operand) (t e : TypeId) (hop : o.op = Op.lookup t m x false) (ht : P.underlying t = some (.map kt e)) (z : Value) (hz : ∀ w, (zeroValue e).run P w = .ok z w)
    (b : Nat) (f : κ → Option Value) (k : κ) (hm : a.eval m = .map (some b)) (hx : a.eval x = K.enc k) (h : MapF K w b f)
    (hK : wpList P ops Q rest (a.put o.dst ((f k).getD z)) w) : wpList P ops Q (o :: rest) a w := by
  refine wpList_plain hg fun K' hK' => ?_
  have hrun := h.lookup ht (hz w) k
  unfold Oper.wp
  simp [execOp, hop, hm, hx, hrun, Result.andThen]
  exact hK' _ _ hK
theorem wpList_update_F {P : Program} {kt : TypeId} {κ : Type} [DecidableEq κ] (K : KeyEnc P kt κ) {w : World} {ops : Array Oper} {rest : List Oper} {o : Oper} {a : Act} {Q : Exit → Act → World → Prop}
    (hg : o.guard = none) (m x v : Operand) (t e : TypeId) (hop : o.op = Op.mapUpdate t m x v) (ht : P.underlying t = some (.map kt e))
    (b : Nat) (f : κ → Option Value) (k : κ) (hm : a.eval m = .map (some b)) (hx : a.eval x = K.enc k) (h : MapF K w b f)
    (hK : ∀ w', MapF K w' b (put f k (a.eval v)) → w.grownBy w' (some b) → wpList P ops Q rest (a.put o.dst undef) w') : wpList P ops Q (o :: rest) a w := by
  refine wpList_plain hg fun K' hK' => ?_
  obtain ⟨w', hrun, h1, h2⟩ := h.update ht k (a.eval v)
  unfold Oper.wp
  simp [execOp, hop, hm, hx, hrun, Result.andThen]
  exact hK' _ _ (hK w' h1 h2)
theorem wpList_insert_F {P : Program} {kt : TypeId} {κ : Type} [DecidableEq κ] (K : KeyEnc P kt κ) {w : World} {ops : Array Oper} {rest : List Oper} {o : Oper} {a : Act} {Q : Exit → Act → World → Prop}
    (hg : o.guard = none) (m x v : Operand) (t e : TypeId) (hop : o.op = Op.insert t m x v) (ht : P.underlying t = some (.map kt e))
    (b : Nat) (f : κ → Option Value) (k : κ) (hm : a.eval m = .map (some b)) (hx : a.eval x = K.enc k) (h : MapF K w b f)
    (hK : ∀ w', MapF K w' b (put f k (a.eval v)) → w.grownBy w' (some b) → wpList P ops Q rest (a.put o.dst undef) w') : wpList P ops Q (o :: rest) a w := by
  refine wpList_plain hg fun K' hK' => ?_
  obtain ⟨w', hrun, h1, h2⟩ := h.update ht k (a.eval v)
  unfold Oper.wp
  simp [execOp, hop, hm, hx, hrun, Result.andThen]
  exact hK' _ _ (hK w' h1 h2)
end Go.Proofs.YtldnjnnhfeobdaaGreatDoor
/- Contract: different (names that are names, and no two the same). Conditions: lengths below 2^20. -/
namespace Go.Proofs.YtldnjnnhfeobdaaGreatDoor
set_option linter.all false
set_option linter.unusedSimpArgs false
set_option linter.unusedVariables false
open Go.RowKit Go.Shelf

/-- names that are names, none of which is in seen or comes twice -/
def distinctFrom (seen : List ByteArray) : List ByteArray → Bool
  | [] => true
  | n :: r => if memB n seen then false else isNameB n && distinctFrom (seen ++ [n]) r
def differentB (l : List ByteArray) (most : Int) : Bool := distinctFrom [] l && decide ((l.length : Int) ≤ most)

def setF (seen : List ByteArray) : ByteArray → Option Value := fun s => if memB s seen then some (.bool true) else none
theorem setF_put (seen : List ByteArray) (n : ByteArray) : put (setF seen) n (.bool true) = setF (seen ++ [n]) := by
  funext s
  by_cases h : s = n
  · subst h
    simp [put, setF, memB]
  · have h' : ¬ n = s := fun e => h e.symm
    have e : memB s (seen ++ [n]) = memB s seen := by rw [memB_append]; simp [memB, h']
    simp only [put, setF, e, h, if_false]
theorem setF_getD (seen : List ByteArray) (n : ByteArray) : (setF seen n).getD (.bool false) = .bool (memB n seen) := by
  cases h : memB n seen <;> simp [setF, h]
theorem zeroBool (w : World) : (zeroValue 4).run Tryz.prog w = .ok (.bool false) w := by kernel_rfl
theorem take_snoc' {α : Type} (l : List α) (j : Nat) (h : j < l.length) : l.take j ++ [l[j]] = l.take (j + 1) := (List.take_succ_eq_append_getElem h).symm
theorem drop_cons' {α : Type} (l : List α) (j : Nat) (h : j < l.length) : l.drop j = l[j] :: l.drop (j + 1) := List.drop_eq_getElem_cons h

set_option maxRecDepth 100000 in
set_option maxHeartbeats 2000000 in
theorem different_any (w : World) (v : Value) (l : List ByteArray) (most : Int) (hv : Sl strE w v l) (hn : l.length ≤ 1048576) (hs : ∀ s ∈ l, s.size ≤ 1048576) :
    Calls Tryz.prog 191 #[v, .int .i64 most] w (Ret w (.bool (differentB l most))) := by
  obtain ⟨A, cap, rfl, hc⟩ := hv.str
  have Hc := Lib.hid hc
  have Hs := Lib.hid hs
  have hmm := @run_makeMap Tryz.prog
  clear hc hs hv
  go_enter Tryz.func191, Tryz.ntmps191
  go_wp2_with fail
  go_loopw [11] (fun k wr => ∃ j : Nat, j ≤ l.length ∧ k = .int .i64 j ∧ Ext w wr ∧ MapF (strK Tryz.underlying9) wr w.heap.size (setF (l.take j)) ∧ Hid (distinctFrom [] l = distinctFrom (l.take j) (l.drop j))) (fun k _ => l.length - (intOf k).toNat)
  case atStart => exact ⟨0, by omega, by simp, (Ext.refl _).alloc _, by rw [show setF (l.take 0) = fun _ => none from by funext s; simp [setF, memB]]; exact MapF.made (strK Tryz.underlying9) w, rfl⟩
  case round =>
    obtain ⟨j, hj, rfl, hx, hmap, hd⟩ := hrel
    by_cases hlt : j < l.length
    · obtain ⟨b, off, rfl, h0⟩ := Hc.out j hlt
      have h0 := hx.cell h0
      have Hmap := Lib.hid hmap
      have hd' : Hid (distinctFrom [] l = if memB l[j] (l.take j) then false else isNameB l[j] && distinctFrom (l.take (j + 1)) (l.drop (j + 1))) := by
        rw [hd.out, drop_cons' l j hlt]
        simp only [distinctFrom]
        rw [take_snoc' l j hlt]
        rfl
      have HN := Lib.hid (fun w => isName_any l[j] w (Hs.out _ (List.getElem_mem hlt)))
      have Hg := Lib.hid (setF_getD (l.take j) l[j])
      clear hmap hd
      cases hin : memB l[j] (l.take j)
      · have Hin := Lib.hid hin
        clear hin
        cases hnm : isNameB l[j]
        · rw [hnm] at HN
          have Hnm := Lib.hid hnm
          clear hnm
          go_wp2_with (at_lookup; refine wpList_lookup_F (strK Tryz.underlying9) rfl _ _ 240 4 rfl Tryz.underlying240 (.bool false) zeroBool _ _ l[j] rfl rfl Hmap.out ?_; rw [Hg.out, Hin.out])
          refine (HN.out _).mono ?_
          rintro e w1 ⟨rfl, hx1⟩
          go_wp2_with fail
          go_ret
          refine ⟨?_, hx.trans hx1⟩
          unfold differentB
          rw [hd'.out, Hin.out, Hnm.out]
          rfl
        · rw [hnm] at HN
          have Hnm := Lib.hid hnm
          clear hnm
          go_wp2_with (at_lookup; refine wpList_lookup_F (strK Tryz.underlying9) rfl _ _ 240 4 rfl Tryz.underlying240 (.bool false) zeroBool _ _ l[j] rfl rfl Hmap.out ?_; rw [Hg.out, Hin.out])
          refine (HN.out _).mono ?_
          rintro e w1 ⟨rfl, hx1⟩
          have hx2 := hx.trans hx1
          have Hmap1 := Lib.hid (Hmap.out.ext hx1)
          have hsz := hx2.size
          clear hx1 hx Hmap h0
          go_wp2_with (at_mapUpdate; refine wpList_update_F (strK Tryz.underlying9) rfl _ _ _ 240 4 rfl Tryz.underlying240 _ _ l[j] rfl rfl Hmap1.out ?_; intro w2 hm2 hg2)
          have hx3 : Ext w w2 := Below.grown hx2 hg2 hsz (fun k hk => by cases hk; exact Nat.le_refl _)
          have hm3 : MapF (strK Tryz.underlying9) w2 w.heap.size (setF (l.take (j + 1))) := by
            rw [← take_snoc' l j hlt, ← setF_put]; exact hm2
          clear hm2 hg2 Hmap1 hx2
          go_wp2_with fail
          go_roundw
          case rel => exact ⟨j + 1, by omega, by go_num, hx3, hm3, by rw [hd'.out, Hin.out, Hnm.out]; rfl⟩
          case measure => simp [intOf]; omega
      · have Hin := Lib.hid hin
        clear hin
        go_wp2_with (at_lookup; refine wpList_lookup_F (strK Tryz.underlying9) rfl _ _ 240 4 rfl Tryz.underlying240 (.bool false) zeroBool _ _ l[j] rfl rfl Hmap.out ?_; rw [Hg.out, Hin.out])
        go_ret
        refine ⟨?_, hx⟩
        unfold differentB
        rw [hd'.out, Hin.out]
        rfl
    · have hd' : Hid (distinctFrom [] l = true) := by
        rw [hd.out, List.drop_of_length_le (by omega)]; rfl
      clear hd hmap
      go_wp2_with fail
      go_ret
      refine ⟨?_, hx⟩
      unfold differentB
      rw [hd'.out]
      simp
end Go.Proofs.YtldnjnnhfeobdaaGreatDoor
/- Contracts: the rules on brands and parts. Conditions: lengths below 2^20. -/
namespace Go.Proofs.YtldnjnnhfeobdaaGreatDoor
set_option linter.all false
set_option linter.unusedSimpArgs false
set_option linter.unusedVariables false
open Go.RowKit Go.Shelf

theorem heap_cell {w : World} {b : Nat} {c : Array Value} {t : TypeId} {fr : Nat × Nat} (h : w.heap[b]? = some (.cells c t fr)) (i : Nat) (v : Value) (hv : c[i]? = some v) : w.cell? ⟨b, i, none⟩ = some v := by
  simp [World.cell?, h, hv]
theorem heap_frozen {w : World} {b : Nat} {c : Array Value} {t : TypeId} (h : w.heap[b]? = some (.cells c t (0, 0))) (i : Nat) : w.frozen? ⟨b, i, none⟩ = false := by
  simp [World.frozen?, h]
theorem heap_set {w : World} {b : Nat} {c : Array Value} {t : TypeId} {fr : Nat × Nat} (h : w.heap[b]? = some (.cells c t fr)) (i : Nat) (v : Value) : (w.setCell ⟨b, i, none⟩ v).heap[b]? = some (.cells (c.setIfInBounds i v) t fr) := by
  simp [World.setCell, Array.getElem?_modify, h]

/-- a type in a box of the call's own -/
def TyBox (w : World) (b : Nat) (t : Ty) (vp vm vo : Value) : Prop :=
  w.heap[b]? = some (.cells #[.int .u8 t.kind, .int .i64 t.low, .int .i64 t.high, .bool t.branded, .string t.brand, .string t.opaq, .int .i64 t.super, vp, vm, vo] 42 (0, 0))
theorem TyBox.ext {w w' : World} {b : Nat} {t : Ty} {vp vm vo : Value} (h : TyBox w b t vp vm vo) (hx : Ext w w') : TyBox w' b t vp vm vo := hx.heap h
theorem TyBox.at {w : World} {b : Nat} {t : Ty} {vp vm vo : Value} (h : TyBox w b t vp vm vo) : TyAt w b 0 t vp vm vo :=
  ⟨heap_cell h 0 _ rfl, heap_cell h 1 _ rfl, heap_cell h 2 _ rfl, heap_cell h 3 _ rfl, heap_cell h 4 _ rfl, heap_cell h 5 _ rfl, heap_cell h 6 _ rfl, heap_cell h 7 _ rfl, heap_cell h 8 _ rfl, heap_cell h 9 _ rfl⟩
theorem TyBox.lt {w : World} {b : Nat} {t : Ty} {vp vm vo : Value} (h : TyBox w b t vp vm vo) : b < w.heap.size := (Array.getElem?_eq_some_iff.1 h).1

theorem toList_empty : ByteArray.empty.toList = [] := by rw [ByteArray.toList_eq]; rfl
theorem strEq_empty (s : ByteArray) : strEq s ByteArray.empty = s.toList.isEmpty := by
  unfold strEq
  rw [toList_empty]
  cases s.toList <;> rfl
def partBad (n : Nat) (p : Part) : Bool := !hasB n p.type
set_option maxRecDepth 100000 in
theorem branded1 (w : World) (B : Nat) (A : Option Addr) (n cap : Nat) (p : Part) (hn : n ≤ 1048576) (hc : w.cell? ⟨B, 0, none⟩ = some (.slice A n cap)) :
    Calls Tryz.prog 219 #[.agg #[.string p.name, .int .i64 p.type], .pointer (some ⟨B, 0, none⟩)] w (Ret w (.bool (partBad n p))) := by
  have hlt := cell_lt hc
  have hh := fun w => has_any w A n cap p.type hn
  unfold partBad
  generalize hasB n p.type = r at hh ⊢
  have Hh := Lib.hid hh
  clear hh
  go_enter Tryz.func219, Tryz.ntmps219
  go_wp2_with fail
  refine (Hh.out _).mono ?_
  rintro e w1 ⟨rfl, hx1⟩
  go_wp2_with fail
  go_ret
  exact ⟨rfl, ((Ext.refl _).alloc _).trans hx1⟩
theorem pred219 (w : World) (B : Nat) (A : Option Addr) (n cap : Nat) (xs : List Part) (hn : n ≤ 1048576) (hc : w.cell? ⟨B, 0, none⟩ = some (.slice A n cap)) :
    Pred partE w 219 #[.pointer (some ⟨B, 0, none⟩)] xs (partBad n) :=
  ⟨enters_of Tryz.func219 (by kernel_rfl) rfl, by
    rintro x _ w' A' hx ⟨cs, rfl, rfl⟩
    exact branded1 w' B A n cap x hn (hx.cell hc)⟩

def brandedB (n : Nat) (t : Ty) : Bool := isBrandB t.brand && ((t.branded || strEq t.brand ByteArray.empty) && !t.parts.any (partBad n))
def noBrand (t : Ty) : Ty := { t with branded := false, brand := ByteArray.empty }

set_option maxRecDepth 100000 in
set_option maxHeartbeats 4000000 in
theorem branded_any (w : World) (A : Option Addr) (n cap b : Nat) (t : Ty) (vp vm vo : Value) (hn : n ≤ 1048576) (hbrand : t.brand.size ≤ 1048576) (hp : Sl partE w vp t.parts) (hpn : t.parts.length ≤ 1048576) (hb : TyBox w b t vp vm vo) :
    Calls Tryz.prog 190 #[.agg #[.slice A n cap], .pointer (some ⟨b, 0, none⟩)] w fun e w' => e = .returned (.bool (brandedB n t)) ∧ TyBox w' b (noBrand t) vp vm vo ∧ w.grownBy w' (some b) := by
  have Hb := Lib.hid hb
  have hlt := hb.lt
  have h3 := hb.at.c3
  have h4 := hb.at.c4
  have h7 := hb.at.c7
  have hib := fun w => isBrand_any t.brand w hbrand
  obtain ⟨A1, cap1, rfl⟩ := hp.len
  have Hp := Lib.hid hp
  simp only [Nat.zero_add] at h3 h4 h7
  unfold brandedB
  have hfin : ∀ w1 : World, Ext w w1 → TyBox ((w1.setCell ⟨b, 3, none⟩ (.bool false)).setCell ⟨b, 4, none⟩ (.string ByteArray.empty)) b (noBrand t) (.slice A1 t.parts.length cap1) vm vo ∧ w.grownBy ((w1.setCell ⟨b, 3, none⟩ (.bool false)).setCell ⟨b, 4, none⟩ (.string ByteArray.empty)) (some b) := by
    intro w1 hx
    have hb1 := Hb.out.ext hx
    refine ⟨heap_set (heap_set hb1 3 _) 4 _, ⟨hx.os, hx.tape, hx.output, by simp; exact hx.size, fun k hk hne => ?_⟩⟩
    have : k ≠ b := fun e => hne (by rw [e])
    rw [Below.heap_setCell _ _ _ _ this, Below.heap_setCell _ _ _ _ this]
    exact Below.block hx k hk
  have Hfin := Lib.hid hfin
  clear hb hp hfin
  cases h1 : isBrandB t.brand
  · rw [h1] at hib
    have Hib := Lib.hid hib
    clear hib h1 h7
    go_enter Tryz.func190, Tryz.ntmps190
    go_wp2_with fail
    refine (Hib.out _).mono ?_
    rintro e w1 ⟨rfl, hx1⟩
    have hx2 := ((Ext.refl w).alloc _).trans hx1
    have h3' := hx2.cell h3
    have h4' := hx2.cell h4
    have f3 := heap_frozen (Hb.out.ext hx2) 3
    have f4 := heap_frozen (Hb.out.ext hx2) 4
    have Hx2 := Lib.hid hx2
    clear h3 h4 hx1 hx2
    go_wp2_with fail
    go_ret
    exact ⟨rfl, Hfin.out _ Hx2.out⟩
  · rw [h1] at hib
    have Hib := Lib.hid hib
    clear hib h1
    have hcon := fun (w' : World) (hx : Ext w w') (hc : w'.cell? ⟨w.heap.size, 0, none⟩ = some (.slice A n cap)) =>
      containsFunc_part 219 #[.pointer (some ⟨w.heap.size, 0, none⟩)] w' _ _ _ (Hp.out.mono hx) hpn (pred219 w' _ A n cap t.parts hn hc)
    generalize t.parts.any (partBad n) = r at hcon ⊢
    have Hcon := Lib.hid hcon
    clear hcon
    cases hbr : t.branded
    · rw [hbr] at h3
      have hem := strEq_empty t.brand
      rw [hem]
      cases he : t.brand.toList.isEmpty
      · have Hbr := Lib.hid hbr
        clear hem hbr h7
        go_enter Tryz.func190, Tryz.ntmps190
        go_wp2_with fail
        refine (Hib.out _).mono ?_
        rintro e w1 ⟨rfl, hx1⟩
        have hx2 := ((Ext.refl w).alloc _).trans hx1
        have h3' := hx2.cell h3
        have h4' := hx2.cell h4
        have f3 := heap_frozen (Hb.out.ext hx2) 3
        have f4 := heap_frozen (Hb.out.ext hx2) 4
        have Hx2 := Lib.hid hx2
        clear h3 h4 hx1 hx2
        go_wp2_with fail
        go_ret
        exact ⟨rfl, Hfin.out _ Hx2.out⟩
      · have Hbr := Lib.hid hbr
        clear hem hbr
        go_enter Tryz.func190, Tryz.ntmps190
        go_wp2_with fail
        refine (Hib.out _).mono ?_
        rintro e w1 ⟨rfl, hx1⟩
        have hx2 := ((Ext.refl w).alloc _).trans hx1
        have h3' := hx2.cell h3
        have h4' := hx2.cell h4
        have h7' := hx2.cell h7
        have hg' := hx1.cell (World.cell?_alloc_new (w := w) #[.slice A n cap] 77 0)
        have Hx2 := Lib.hid hx2
        clear h3 h4 h7 hx1 hx2
        go_wp2_with fail
        refine (Hcon.out _ Hx2.out hg').mono ?_
        rintro e w2 ⟨rfl, hx3⟩
        have hx4 := Hx2.out.trans hx3
        have h3'' := hx3.cell h3'
        have h4'' := hx3.cell h4'
        have f3 := heap_frozen (Hb.out.ext hx4) 3
        have f4 := heap_frozen (Hb.out.ext hx4) 4
        have Hx4 := Lib.hid hx4
        clear h3' h4' h7' hg' hx3 hx4 Hx2
        go_wp2_with fail
        go_ret
        exact ⟨rfl, Hfin.out _ Hx4.out⟩
    · rw [hbr] at h3
      have Hbr := Lib.hid hbr
      clear hbr
      go_enter Tryz.func190, Tryz.ntmps190
      go_wp2_with fail
      refine (Hib.out _).mono ?_
      rintro e w1 ⟨rfl, hx1⟩
      have hx2 := ((Ext.refl w).alloc _).trans hx1
      have h3' := hx2.cell h3
      have h4' := hx2.cell h4
      have h7' := hx2.cell h7
      have hg' := hx1.cell (World.cell?_alloc_new (w := w) #[.slice A n cap] 77 0)
      have Hx2 := Lib.hid hx2
      clear h3 h4 h7 hx1 hx2
      go_wp2_with fail
      refine (Hcon.out _ Hx2.out hg').mono ?_
      rintro e w2 ⟨rfl, hx3⟩
      have hx4 := Hx2.out.trans hx3
      have h3'' := hx3.cell h3'
      have h4'' := hx3.cell h4'
      have f3 := heap_frozen (Hb.out.ext hx4) 3
      have f4 := heap_frozen (Hb.out.ext hx4) 4
      have Hx4 := Lib.hid hx4
      clear h3' h4' h7' hg' hx3 hx4 Hx2
      go_wp2_with fail
      go_ret
      exact ⟨rfl, Hfin.out _ Hx4.out⟩
end Go.Proofs.YtldnjnnhfeobdaaGreatDoor
/- Contracts: the rules on references, arrays, records, ranges and opaque types. Conditions: lengths below 2^20. -/
namespace Go.Proofs.YtldnjnnhfeobdaaGreatDoor
set_option linter.all false
set_option linter.unusedSimpArgs false
set_option linter.unusedVariables false
open Go.RowKit Go.Shelf

/-- nothing of a type is long -/
structure TySmall (t : Ty) : Prop where
  brand : t.brand.size ≤ 1048576
  opaq : t.opaq.size ≤ 1048576
  parts : t.parts.length ≤ 1048576
  part : ∀ p ∈ t.parts, p.name.size ≤ 1048576
  methods : t.methods.length ≤ 1048576
  method : ∀ m ∈ t.methods, m.name.size ≤ 1048576 ∧ m.proc.size ≤ 1048576 ∧ m.args.length ≤ 1048576 ∧ m.raises.length ≤ 1048576 ∧ ∀ r ∈ m.raises, r.size ≤ 1048576
  overs : t.overs.length ≤ 1048576
  over : ∀ o ∈ t.overs, o.name.size ≤ 1048576 ∧ o.proc.size ≤ 1048576

/-- v is a slice of n elements -/
def Len (v : Value) (n : Nat) : Prop := ∃ A cap, v = .slice A n cap
theorem Len.nil : Len (.slice none 0 0) 0 := ⟨_, _, rfl⟩
theorem Sl.toLen {α : Type} {E : Elt α} {w : World} {v : Value} {xs : List α} (h : Sl E w v xs) : Len v xs.length := h.len

/-- what a rule leaves: its answer, and the type without what it has looked at -/
def RulePost (w0 : World) (b : Nat) (r : Bool) (t : Ty) (e : Ending) (w' : World) : Prop :=
  e = .returned (.bool r) ∧ Ext w0 w' ∧ ∃ vp vm vo, TyBox w' b t vp vm vo ∧ Len vp t.parts.length ∧ Len vm t.methods.length ∧ Len vo t.overs.length
def Rule (f : Nat) (ok : Graph → Ty → Bool) (aft : Ty → Ty) : Prop :=
  ∀ (w0 w : World) (gv : Value) (g : Graph) (b : Nat) (t : Ty) (vp vm vo : Value), Ext w0 w → w0.heap.size ≤ b → Glob w0 → Sl tyE w0 gv g → g.length ≤ 1048576 → TyOf w0 t vp vm vo → TySmall t → TyBox w b t vp vm vo →
    Calls Tryz.prog f #[.agg #[gv], .pointer (some ⟨b, 0, none⟩)] w (RulePost w0 b (ok g t) (aft t))

theorem branded_rule {w0 w : World} {A : Option Addr} {n cap b : Nat} {t : Ty} {vp vm vo : Value} (hx : Ext w0 w) (hB : w0.heap.size ≤ b) (hn : n ≤ 1048576) (hp : TyOf w0 t vp vm vo) (hs : TySmall t) (hb : TyBox w b t vp vm vo) :
    Calls Tryz.prog 190 #[.agg #[.slice A n cap], .pointer (some ⟨b, 0, none⟩)] w fun e w' => e = .returned (.bool (brandedB n t)) ∧ Ext w0 w' ∧ TyBox w' b (noBrand t) vp vm vo :=
  (branded_any w A n cap b t vp vm vo hn hs.brand (hp.parts.mono hx) hs.parts hb).mono fun e w' ⟨h1, h2, h3⟩ =>
    ⟨h1, Below.grown hx h3 hx.size (fun k hk => by cases hk; exact hB), h2⟩

theorem TyBox.set {w0 w : World} {b : Nat} {c : Array Value} (hx : Ext w0 w) (hB : w0.heap.size ≤ b) (h : w.heap[b]? = some (.cells c 42 (0, 0))) (i : Nat) (v : Value) :
    Ext w0 (w.setCell ⟨b, i, none⟩ v) ∧ (w.setCell ⟨b, i, none⟩ v).heap[b]? = some (.cells (c.setIfInBounds i v) 42 (0, 0)) :=
  ⟨hx.setCell hB v, heap_set h i v⟩

/-! ### nothing -/
set_option maxRecDepth 100000 in
theorem nothing_rule : Rule 155 (fun _ _ => true) id := by
  intro w0 w gv g b t vp vm vo hx hB hG hg hgn hof hs hb
  obtain ⟨A, cap, rfl⟩ := hg.len
  have hp := hof.parts.toLen
  have hm := hof.methods.toLen
  have ho := hof.overs.toLen
  have Hx := Lib.hid hx
  have Hb := Lib.hid hb
  clear hx hb hG hg hof hs
  go_enter Tryz.func155, Tryz.ntmps155
  go_wp2_with fail
  go_ret
  exact ⟨rfl, Hx.out.alloc _, _, _, _, Hb.out.ext ((Ext.refl _).alloc _), hp, hm, ho⟩

/-! ### references and arrays -/
def heldB (g : Graph) (t : Ty) : Bool := brandedB g.length t && (decide (t.parts.length = 1) && strEq ((t.parts.head?.map (·.name)).getD ByteArray.empty) ByteArray.empty)
def noParts (t : Ty) : Ty := { noBrand t with parts := [] }
set_option maxRecDepth 100000 in
set_option maxHeartbeats 4000000 in
theorem held_rule : Rule 157 heldB noParts := by
  intro w0 w gv g b t vp vm vo hx hB hG hg hgn hof hs hb
  obtain ⟨A, cap, rfl⟩ := hg.len
  obtain ⟨A1, cap1, rfl, hcell⟩ := hof.parts.part
  have hm := hof.methods.toLen
  have ho := hof.overs.toLen
  have hlt := hb.lt
  have hbr := branded_rule (A := A) (cap := cap) (hx.alloc (.cells #[.slice A g.length cap] 77)) hB hgn hof hs (hb.ext ((Ext.refl _).alloc _))
  unfold heldB
  have hfin : ∀ w1 : World, Ext w0 w1 → TyBox w1 b (noBrand t) (.slice A1 t.parts.length cap1) vm vo → ∀ r, RulePost w0 b r (noParts t) (.returned (.bool r)) (w1.setCell ⟨b, 7, none⟩ (.slice none 0 0)) := fun w1 h1 h2 r =>
    ⟨rfl, (TyBox.set h1 hB h2 7 _).1, _, _, _, (TyBox.set h1 hB h2 7 _).2, Len.nil, hm, ho⟩
  have Hbr := Lib.hid hbr
  have Hfin := Lib.hid hfin
  have Hcell := Lib.hid hcell
  clear hx hb hG hg hof hs hbr hfin hcell
  cases h1 : brandedB g.length t
  · rw [h1] at Hbr
    clear h1
    go_enter Tryz.func157, Tryz.ntmps157
    go_wp2_with fail
    refine Hbr.out.mono ?_
    rintro e w1 ⟨rfl, hx1, hb1⟩
    have f7 := heap_frozen hb1 7
    have c7 := hb1.at.c7
    simp only [Nat.zero_add] at c7
    have Hx1 := Lib.hid hx1
    have Hb1 := Lib.hid hb1
    clear hx1 hb1
    go_wp2_with fail
    go_ret
    exact Hfin.out _ Hx1.out Hb1.out _
  · rw [h1] at Hbr
    clear h1
    by_cases hlen : t.parts.length = 1
    · have hl1 : ((t.parts.length : Int) == 1) = true := by simp [hlen]
      have hpos : 0 < t.parts.length := by omega
      obtain ⟨b1, off1, rfl, n0, n1⟩ := Hcell.out 0 hpos
      have hhead : (t.parts.head?.map (·.name)).getD ByteArray.empty = (t.parts[0]'hpos).name := by
        rw [List.head?_eq_getElem?, List.getElem?_eq_getElem hpos]; rfl
      rw [hhead, strEq_empty]
      have n0 : w0.cell? ⟨b1, off1, none⟩ = some (.string (t.parts[0]'hpos).name) := by simpa using n0
      have hpos' : (0 : Int) < (t.parts.length : Int) := by omega
      have N0 := Lib.hid n0
      have Hlen := Lib.hid hlen
      clear n0 n1 hlen hhead
      have hl2 : decide (t.parts.length = 1) = true := by rw [Hlen.out]; rfl
      rw [hl2]
      clear hl2
      cases hem : (t.parts[0]'hpos).name.toList.isEmpty
      all_goals
        go_enter Tryz.func157, Tryz.ntmps157
        go_wp2_with fail
        refine Hbr.out.mono ?_
        rintro e w1 ⟨rfl, hx1, hb1⟩
        have f7 := heap_frozen hb1 7
        have c7 := hb1.at.c7
        simp only [Nat.zero_add] at c7
        have n0 := hx1.cell N0.out
        have Hx1 := Lib.hid hx1
        have Hb1 := Lib.hid hb1
        clear hx1 hb1
        go_wp2_with fail
        go_ret
        exact Hfin.out _ Hx1.out Hb1.out _
    · have hl1 : ((t.parts.length : Int) == 1) = false := by simp; omega
      rw [decide_eq_false hlen]
      clear hlen
      go_enter Tryz.func157, Tryz.ntmps157
      go_wp2_with fail
      refine Hbr.out.mono ?_
      rintro e w1 ⟨rfl, hx1, hb1⟩
      have f7 := heap_frozen hb1 7
      have c7 := hb1.at.c7
      simp only [Nat.zero_add] at c7
      have Hx1 := Lib.hid hx1
      have Hb1 := Lib.hid hb1
      clear hx1 hb1
      go_wp2_with fail
      go_ret
      exact Hfin.out _ Hx1.out Hb1.out _
end Go.Proofs.YtldnjnnhfeobdaaGreatDoor
/- Contracts: the rules on records, ranges and opaque types. Conditions: lengths below 2^20. -/
namespace Go.Proofs.YtldnjnnhfeobdaaGreatDoor
set_option linter.all false
set_option linter.unusedSimpArgs false
set_option linter.unusedVariables false
open Go.RowKit Go.Shelf

def recordedB (g : Graph) (t : Ty) : Bool := brandedB g.length t && (decide (0 < t.parts.length) && differentB (t.parts.map (·.name)) 8)
theorem small_names {t : Ty} (hs : TySmall t) : ∀ s ∈ t.parts.map (·.name), s.size ≤ 1048576 := by
  intro s h
  obtain ⟨p, hp, rfl⟩ := List.mem_map.1 h
  exact hs.part p hp
set_option maxRecDepth 100000 in
set_option maxHeartbeats 4000000 in
theorem recorded_rule : Rule 158 recordedB noParts := by
  intro w0 w gv g b t vp vm vo hx hB hG hg hgn hof hs hb
  obtain ⟨A, cap, rfl⟩ := hg.len
  obtain ⟨A1, cap1, rfl⟩ := hof.parts.len
  have hm := hof.methods.toLen
  have ho := hof.overs.toLen
  have hlt := hb.lt
  have hbr := branded_rule (A := A) (cap := cap) (hx.alloc (.cells #[.slice A g.length cap] 77)) hB hgn hof hs (hb.ext ((Ext.refl _).alloc _))
  unfold recordedB
  have hfin : ∀ w1 : World, Ext w0 w1 → TyBox w1 b (noBrand t) (.slice A1 t.parts.length cap1) vm vo → ∀ r, RulePost w0 b r (noParts t) (.returned (.bool r)) (w1.setCell ⟨b, 7, none⟩ (.slice none 0 0)) := fun w1 h1 h2 r =>
    ⟨rfl, (TyBox.set h1 hB h2 7 _).1, _, _, _, (TyBox.set h1 hB h2 7 _).2, Len.nil, hm, ho⟩
  have htur := fun (w1 : World) (h1 : Ext w0 w1) => turned_part_str 193 #[] w1 _ t.parts Part.name (hof.parts.mono h1) hs.parts (map193 w1 t.parts)
  have hdif := fun (w1 : World) (v : Value) (h1 : Sl strE w1 v (t.parts.map Part.name)) => different_any w1 v (t.parts.map Part.name) 8 h1 (by simpa using hs.parts) (small_names hs)
  have Hbr := Lib.hid hbr
  have Hfin := Lib.hid hfin
  have Htur := Lib.hid htur
  have Hdif := Lib.hid hdif
  have hpn := hs.parts
  clear hx hb hG hg hof hs hbr hfin htur hdif
  change Calls _ _ _ _ (RulePost w0 b (_ && (_ && differentB (t.parts.map Part.name) 8)) _)
  generalize differentB (t.parts.map Part.name) 8 = r at Hdif ⊢
  cases h1 : brandedB g.length t
  · rw [h1] at Hbr
    clear h1
    go_enter Tryz.func158, Tryz.ntmps158
    go_wp2_with fail
    refine Hbr.out.mono ?_
    rintro e w1 ⟨rfl, hx1, hb1⟩
    have f7 := heap_frozen hb1 7
    have c7 := hb1.at.c7
    simp only [Nat.zero_add] at c7
    have Hx1 := Lib.hid hx1
    have Hb1 := Lib.hid hb1
    clear hx1 hb1
    go_wp2_with fail
    go_ret
    exact Hfin.out _ Hx1.out Hb1.out _
  · rw [h1] at Hbr
    clear h1
    by_cases hlen : 0 < t.parts.length
    · rw [decide_eq_true hlen]
      go_enter Tryz.func158, Tryz.ntmps158
      go_wp2_with fail
      refine Hbr.out.mono ?_
      rintro e w1 ⟨rfl, hx1, hb1⟩
      have c7 := hb1.at.c7
      simp only [Nat.zero_add] at c7
      have Hx1 := Lib.hid hx1
      have Hb1 := Lib.hid hb1
      clear hx1 hb1
      go_wp2_with fail
      refine (Htur.out _ Hx1.out).mono ?_
      rintro e w2 ⟨v2, rfl, hs2, hx2⟩
      have hsl := hs2.any
      obtain ⟨A2, cap2, e2⟩ := hsl.len
      rw [List.length_map] at e2
      subst e2
      have Hx2 := Lib.hid (Hx1.out.trans hx2)
      have Hb2 := Lib.hid (Hb1.out.ext hx2)
      have Hsl := Lib.hid hsl
      clear hs2 hsl hx2 c7 Hx1 Hb1
      go_wp2_with fail
      refine (Hdif.out _ _ Hsl.out).mono ?_
      rintro e w3 ⟨rfl, hx3⟩
      have Hx3 := Lib.hid (Hx2.out.trans hx3)
      have Hb3 := Lib.hid (Hb2.out.ext hx3)
      have f7 := heap_frozen Hb3.out 7
      have c7 := Hb3.out.at.c7
      simp only [Nat.zero_add] at c7
      clear hx3 Hx2 Hb2 Hsl
      go_wp2_with fail
      go_ret
      exact Hfin.out _ Hx3.out Hb3.out _
    · rw [decide_eq_false hlen]
      go_enter Tryz.func158, Tryz.ntmps158
      go_wp2_with fail
      refine Hbr.out.mono ?_
      rintro e w1 ⟨rfl, hx1, hb1⟩
      have f7 := heap_frozen hb1 7
      have c7 := hb1.at.c7
      simp only [Nat.zero_add] at c7
      have Hx1 := Lib.hid hx1
      have Hb1 := Lib.hid hb1
      clear hx1 hb1
      go_wp2_with fail
      go_ret
      exact Hfin.out _ Hx1.out Hb1.out _

/-! ### ranges -/
def rangedB (_ : Graph) (t : Ty) : Bool := inB t.low (-1000000000) t.high && decide (t.high ≤ 1000000000)
def noRange (t : Ty) : Ty := { t with low := 0, high := 0 }
set_option maxRecDepth 100000 in
set_option maxHeartbeats 4000000 in
theorem ranged_rule : Rule 156 rangedB noRange := by
  intro w0 w gv g b t vp vm vo hx hB hG hg hgn hof hs hb
  obtain ⟨A, cap, rfl⟩ := hg.len
  have hp := hof.parts.toLen
  have hm := hof.methods.toLen
  have ho := hof.overs.toLen
  have hlt := hb.lt
  unfold rangedB
  have hfin : ∀ w1 : World, Ext w0 w1 → TyBox w1 b t vp vm vo → ∀ r, RulePost w0 b r (noRange t) (.returned (.bool r)) ((w1.setCell ⟨b, 1, none⟩ (.int .i64 0)).setCell ⟨b, 2, none⟩ (.int .i64 0)) := fun w1 h1 h2 r =>
    ⟨rfl, (TyBox.set (TyBox.set h1 hB h2 1 _).1 hB (TyBox.set h1 hB h2 1 _).2 2 _).1, _, _, _, (TyBox.set (TyBox.set h1 hB h2 1 _).1 hB (TyBox.set h1 hB h2 1 _).2 2 _).2, hp, hm, ho⟩
  have Hfin := Lib.hid hfin
  have Hx := Lib.hid hx
  have Hb := Lib.hid hb
  have c1 := hb.at.c1
  have c2 := hb.at.c2
  have f1 := heap_frozen hb 1
  have f2 := heap_frozen hb 2
  simp only [Nat.zero_add] at c1 c2
  clear hx hb hG hg hof hs hfin
  cases h1 : inB t.low (-1000000000) t.high
  · have H1 := Lib.hid h1
    clear h1
    go_enter Tryz.func156, Tryz.ntmps156
    go_wp2_with fail
    go_quiet ((go_at_call 59; exact Calls.quiet_of_same ((in_any t.low (-1000000000) t.high _).mono fun e w' ⟨h, h'⟩ => ⟨by rw [h, H1.out], h'.symm⟩)))
    go_wp2_with fail
    go_ret
    exact Hfin.out _ ((Hx.out.alloc _).drewN _) (Hb.out.ext (((Ext.refl _).alloc _).drewN _)) _
  · have H1 := Lib.hid h1
    clear h1
    by_cases h2 : t.high ≤ 1000000000
    · rw [decide_eq_true h2]
      have h2' : decide (t.high ≤ 1000000000) = true := decide_eq_true h2
      go_enter Tryz.func156, Tryz.ntmps156
      go_wp2_with fail
      go_quiet ((go_at_call 59; exact Calls.quiet_of_same ((in_any t.low (-1000000000) t.high _).mono fun e w' ⟨h, h'⟩ => ⟨by rw [h, H1.out], h'.symm⟩)))
      go_wp2_with fail
      go_ret
      exact Hfin.out _ ((Hx.out.alloc _).drewN _) (Hb.out.ext (((Ext.refl _).alloc _).drewN _)) _
    · rw [decide_eq_false h2]
      have h2' : decide (t.high ≤ 1000000000) = false := decide_eq_false h2
      go_enter Tryz.func156, Tryz.ntmps156
      go_wp2_with fail
      go_quiet ((go_at_call 59; exact Calls.quiet_of_same ((in_any t.low (-1000000000) t.high _).mono fun e w' ⟨h, h'⟩ => ⟨by rw [h, H1.out], h'.symm⟩)))
      go_wp2_with fail
      go_ret
      exact Hfin.out _ ((Hx.out.alloc _).drewN _) (Hb.out.ext (((Ext.refl _).alloc _).drewN _)) _
end Go.Proofs.YtldnjnnhfeobdaaGreatDoor
/- Regions that draw their order, whose operations read what lay before and call what leaves it: one walk in the order of the text. No condition. -/
namespace Go.Proofs.YtldnjnnhfeobdaaGreatDoor
set_option linter.all false
set_option linter.unusedSimpArgs false
set_option linter.unusedVariables false
open Go.RowKit Go.Shelf

section
variable {P : Program} {ops : Array Oper} {C : World → Prop} {Q : Act → Prop} {a : Act} {o : Oper} {rest : List Oper}
theorem wp_region_X {id : Nat} {Q : Exit → Act → World → Prop} {a : Act} {w : World} {l : List Oper} (hm : P.follows .mixedOrders = true) (hB : Region.lexB .any l.toArray = true) (C : World → Prop) (hC : C w.drew)
    (h : wpQuiet P l.toArray C (fun a' => ∀ w', C w' → Q .normal a' w') l a) : (Code.region id l.toArray true).wp P Q a w :=
  wp_region_quiet (C := C) hm hB hC (by simpa using h)
theorem X_want (hw : Region.wanted o (yielded ops a.tmps) = true) (h : o.quiet P a C (wpQuiet P ops C Q rest)) : wpQuiet P ops C Q (o :: rest) a :=
  wpQuiet_step fun K hK => by rw [if_pos hw]; exact Oper.quiet_mono hK h
theorem X_skip (hw : Region.wanted o (yielded ops a.tmps) = false) (h : wpQuiet P ops C Q rest (a.put o.dst undef)) : wpQuiet P ops C Q (o :: rest) a :=
  wpQuiet_step fun K hK => by rw [if_neg (by rw [hw]; exact Bool.false_ne_true)]; exact hK _ h
theorem X_val {K : Act → Prop} {v : Value} (h : ∀ w, C w → (execOp a.eval o).run P w = .ok (.value v) w) (hk : K (a.put o.dst v)) : o.quiet P a C K :=
  ⟨v, fun w hw => by unfold Oper.quietAt; rw [h w hw]; exact ⟨rfl, rfl⟩, hk⟩
theorem X_call {K : Act → Prop} {v : Value} {f : FuncId} {args : Array Value} (h : ∀ w, (execOp a.eval o).run P w = .ok (.enter f args) w) (hc : ∀ w, C w → Calls P f args w (fun e w' => e = .returned v ∧ C w')) (hk : K (a.put o.dst v)) : o.quiet P a C K :=
  ⟨v, fun w hw => by unfold Oper.quietAt; rw [h w]; exact ⟨rfl, hc w hw⟩, hk⟩
end
section
variable {P : Program} {Q : Exit → Act → World → Prop} {a : Act} {w : World} {id : Nat} {ops : Array Oper}
theorem wp_region_anyX (hm : P.follows .mixedOrders = true) (h : wpAny P .any ops Q ops.size (Array.replicate ops.size false) a w.drew) : (Code.region id ops true).wp P Q a w := wp_region_any hm h
theorem any_val {i : Nat} {oi : Oper} {v : Value} (d : Option Nat) (l2 : Array Bool) {fuel : Nat} {listed : Array Bool} (hi : ops[i]? = some oi) (hd : oi.dst = d) (hl : listed.setIfInBounds i true = l2)
    (hs : Region.noSelect ops = true) (hf : Region.free .any ops listed i = true) (hr : (Region.ready .any ops listed).contains i = true)
    (hQ : ∀ c a w, Q (.panic c) (a.put oi.dst v) w → Q (.panic c) a w) (hy : Yields P ops oi v a)
    (h : wpAny P .any ops Q fuel l2 (a.put d v) w) : wpAny P .any ops Q (fuel + 1) listed a w :=
  wpAny_take hi hs hf hr hQ hy (by rw [hd, hl]; exact h)
end
end Go.Proofs.YtldnjnnhfeobdaaGreatDoor
/- Contracts: the rule on opaque types. Conditions: lengths below 2^20. -/
namespace Go.Proofs.YtldnjnnhfeobdaaGreatDoor
set_option linter.all false
set_option linter.unusedSimpArgs false
set_option linter.unusedVariables false
open Go.RowKit Go.Shelf

def kindsOpaque : List Int := [12, 6, 7, 8, 13, 4]
def kindsObject : List Int := [12, 6, 7, 8, 13]
theorem lit_bytes (W : World) (l : List Int) (n : Nat) (hn : l.length = n) : Sl byteE (W.alloc (.cells (l.map fun x => Value.int .u8 x).toArray 5)) (.slice (some ⟨W.heap.size, 0, none⟩) n n) l := by
  subst hn
  refine ⟨_, _, rfl, fun i x hi => ⟨_, _, _, rfl, ⟨trivial, Nat.le_refl _⟩, rfl, fun j u hj => ?_⟩⟩
  have hlt := (List.getElem?_eq_some_iff.1 hi).1
  cases j with
  | zero =>
    simp at hj
    subst hj
    simp only [byteE, Nat.mul_one, Nat.add_zero, Nat.zero_add]
    rw [World.cell?_alloc_new]
    simp [hi]
  | succ j => simp at hj

def opaqueB (g : Graph) (t : Ty) : Bool := isSymbolB t.opaq && overB g t.super kindsOpaque
def noOpaque (t : Ty) : Ty := { t with opaq := ByteArray.empty, super := 0 }
set_option maxRecDepth 100000 in
set_option maxHeartbeats 4000000 in
theorem opaque_rule : Rule 160 opaqueB noOpaque := by
  intro w0 w gv g b t vp vm vo hx hB hG hg hgn hof hs hb
  obtain ⟨A, cap, rfl⟩ := hg.len
  have hp := hof.parts.toLen
  have hm := hof.methods.toLen
  have ho := hof.overs.toLen
  have hlt := hb.lt
  unfold opaqueB
  have hfin : ∀ w1 : World, Ext w0 w1 → TyBox w1 b t vp vm vo → ∀ r, RulePost w0 b r (noOpaque t) (.returned (.bool r)) ((w1.setCell ⟨b, 5, none⟩ (.string ByteArray.empty)).setCell ⟨b, 6, none⟩ (.int .i64 0)) := fun w1 h1 h2 r =>
    ⟨rfl, (TyBox.set (TyBox.set h1 hB h2 5 _).1 hB (TyBox.set h1 hB h2 5 _).2 6 _).1, _, _, _, (TyBox.set (TyBox.set h1 hB h2 5 _).1 hB (TyBox.set h1 hB h2 5 _).2 6 _).2, hp, hm, ho⟩
  have hsy := fun (w1 : World) (h1 : Ext w0 w1) => isSymbol_any t.opaq w1 hs.opaq (hG.mono h1)
  have hov := fun (w1 : World) (v : Value) (h1 : Ext w0 w1) (h2 : Sl byteE w1 v kindsOpaque) => over_any w1 _ v g t.super kindsOpaque (hg.mono h1) h2 hgn (by decide)
  generalize overB g t.super kindsOpaque = r at hov ⊢
  have Hfin := Lib.hid hfin
  have Hsy := Lib.hid hsy
  have Hov := Lib.hid hov
  have Hx := Lib.hid hx
  have Hb := Lib.hid hb
  have c5 := hb.at.c5
  have c6 := hb.at.c6
  have f5 := heap_frozen hb 5
  have f6 := heap_frozen hb 6
  simp only [Nat.zero_add] at c5 c6
  clear hx hb hG hg hof hs hfin hsy hov
  cases h1 : isSymbolB t.opaq
  · rw [h1] at Hsy
    clear h1 Hov
    go_enter Tryz.func160, Tryz.ntmps160
    go_wp2_with fail
    refine wp_region_X (by kernel_rfl) (by kernel_rfl) (fun w' => Ext w w') (((Ext.refl _).alloc _).drew) ?_
    repeat (first
      | (refine X_skip rfl ?_; simp only [Act.put, List.setIfInBounds_toArray, List.set_cons_zero, List.set_cons_succ])
      | (refine X_want rfl ?_
         first
           | (refine X_val (v := ?_) (fun w1 hC => ?_) ?_
              rotate_left
              · have c5' := hC.cell c5
                go_simp
                exact rfl
              simp only [Act.put, List.setIfInBounds_toArray, List.set_cons_zero, List.set_cons_succ])
           | (refine X_call (v := .bool false) (f := 29) (args := #[.string t.opaq]) (fun w1 => ?_) (fun w1 hC => (Hsy.out _ (Hx.out.trans hC)).mono fun e w2 ⟨he, hx⟩ => ⟨he, hC.trans hx⟩) ?_
              · go_simp
              simp only [Act.put, List.setIfInBounds_toArray, List.set_cons_zero, List.set_cons_succ])))
    refine wpQuiet_nil ?_
    intro w1 hx1
    have c5' := hx1.cell c5
    have c6' := hx1.cell c6
    have f5' := heap_frozen (Hb.out.ext hx1) 5
    have f6' := heap_frozen (Hb.out.ext hx1) 6
    clear c5 c6 f5 f6
    go_wp2_with fail
    go_ret
    exact Hfin.out _ (Hx.out.trans hx1) (Hb.out.ext hx1) _
  · rw [h1] at Hsy
    clear h1
    go_enter Tryz.func160, Tryz.ntmps160
    go_wp2_with fail
    go_region_with (first | (go_at_call 29; refine (Hsy.out _ ((Hx.out.alloc _).drew)).mono ?_; rintro e w1 ⟨rfl, hx1⟩; have hx2 := ((Ext.refl w).alloc (.cells #[.slice A g.length cap] 77)).drew.trans hx1; have c5' := hx2.cell c5; have c6' := hx2.cell c6; have hg' := hx1.cell (v := .slice A g.length cap) (p := ⟨w.heap.size, 0, none⟩) (by simp); have hb1 := cell_lt c6'; have hb2 := cell_lt hg') | (go_at_call 196; refine (Hov.out _ _ ((Hx.out.trans hx2).alloc _) (lit_bytes w1 kindsOpaque 6 rfl)).mono ?_; rintro e w3 ⟨rfl, hx3⟩))
    all_goals
      have hx4 := (hx2.alloc _).trans hx3
      have c5'' := hx4.cell c5
      have c6'' := hx4.cell c6
      have f5' := heap_frozen (Hb.out.ext hx4) 5
      have f6' := heap_frozen (Hb.out.ext hx4) 6
      clear c5 c6 f5 f6 c5' c6' hg' hx1 hx2 hx3
      go_wp2_with fail
      go_ret
      exact Hfin.out _ (Hx.out.trans hx4) (Hb.out.ext hx4) _
end Go.Proofs.YtldnjnnhfeobdaaGreatDoor
/- Contract: signatures. Conditions: lengths below 2^20. -/
namespace Go.Proofs.YtldnjnnhfeobdaaGreatDoor
set_option linter.all false
set_option linter.unusedSimpArgs false
set_option linter.unusedVariables false
open Go.RowKit Go.Shelf

def alerted : ByteArray := ⟨#[65, 76, 69, 82, 84, 69, 68]⟩
def lessB (a b : ByteArray) : Bool := Op.bytesLess a.toList b.toList
def raiseOk (prev : Option ByteArray) (r : ByteArray) : Bool := (strEq r alerted || isSymbolB r) && (match prev with | none => true | some p => lessB p r)
def raisesFrom (prev : Option ByteArray) : List ByteArray → Bool
  | [] => true
  | r :: l => raiseOk prev r && raisesFrom (some r) l
def prevAt (l : List ByteArray) (j : Nat) : Option ByteArray := if j = 0 then none else l[j - 1]?
theorem raises_step (l : List ByteArray) (j : Nat) (h : j < l.length) : raisesFrom (prevAt l j) (l.drop j) = (raiseOk (prevAt l j) l[j] && raisesFrom (prevAt l (j + 1)) (l.drop (j + 1))) := by
  rw [drop_cons' l j h]
  simp only [raisesFrom]
  rw [show prevAt l (j + 1) = some l[j] by simp [prevAt, List.getElem?_eq_getElem h]]

theorem alerted_toList : alerted.toList = [65, 76, 69, 82, 84, 69, 68] := by rw [ByteArray.toList_eq]; rfl
theorem prevAt_zero (l : List ByteArray) : prevAt l 0 = none := rfl
theorem prevAt_pos (l : List ByteArray) (j : Nat) (h : j + 1 < l.length) : prevAt l (j + 1) = some (l[j]'(by omega)) := by
  simp [prevAt, List.getElem?_eq_getElem (show j < l.length by omega)]
def sigB (n : Nat) (m : Method) : Bool :=
  (decide (m.args.length ≤ 6) && (decide (m.raises.length ≤ 6) && ((decide (m.result = -1) || hasB n m.result) && !(m.args.any fun i => !hasB n i)))) && raisesFrom none m.raises

set_option maxRecDepth 100000 in
theorem signed1 (w : World) (B : Nat) (A : Option Addr) (n cap : Nat) (i : Int) (hn : n ≤ 1048576) (hc : w.cell? ⟨B, 0, none⟩ = some (.slice A n cap)) :
    Calls Tryz.prog 243 #[.int .i64 i, .pointer (some ⟨B, 0, none⟩)] w (Ret w (.bool (!hasB n i))) := by
  have hlt := cell_lt hc
  have hh := fun w => has_any w A n cap i hn
  generalize hasB n i = r at hh ⊢
  have Hh := Lib.hid hh
  clear hh
  go_enter Tryz.func243, Tryz.ntmps243
  go_wp2_with fail
  refine (Hh.out _).mono ?_
  rintro e w1 ⟨rfl, hx1⟩
  go_wp2_with fail
  go_ret
  exact ⟨rfl, hx1⟩
theorem pred243 (w : World) (B : Nat) (A : Option Addr) (n cap : Nat) (xs : List Int) (hn : n ≤ 1048576) (hc : w.cell? ⟨B, 0, none⟩ = some (.slice A n cap)) :
    Pred intE w 243 #[.pointer (some ⟨B, 0, none⟩)] xs (fun i => !hasB n i) :=
  ⟨enters_of Tryz.func243 (by kernel_rfl) rfl, by
    rintro x _ w' A' hx ⟨cs, rfl, rfl⟩
    exact signed1 w' B A n cap x hn (hx.cell hc)⟩

/-- the signature's box, and the graph's -/
def sigV (m : Method) (va vr : Value) : Value := .agg #[va, .int .i64 m.result, vr]

set_option maxRecDepth 100000 in
set_option maxHeartbeats 8000000 in
/-- the loop over what is raised, from the frame that the first part leaves -/
theorem signed_any (w : World) (A : Option Addr) (n cap : Nat) (m : Method) (va vr : Value) (hn : n ≤ 1048576) (hG : Glob w) (ha : Sl intE w va m.args) (hr : Sl strE w vr m.raises)
    (hal : m.args.length ≤ 1048576) (hrl : m.raises.length ≤ 1048576) (hrs : ∀ r ∈ m.raises, r.size ≤ 1048576) :
    Calls Tryz.prog 226 #[.agg #[.slice A n cap], .agg #[va, .int .i64 m.result, vr]] w (Ret w (.bool (sigB n m))) := by
  obtain ⟨Aa, ca, rfl⟩ := ha.len
  obtain ⟨Ar, cr, rfl, hcell⟩ := hr.str
  unfold sigB
  have hh := fun w => has_any w A n cap m.result hn
  have hcon := fun (w' : World) (hx : Ext w w') (hc : w'.cell? ⟨w.heap.size, 0, none⟩ = some (.slice A n cap)) =>
    containsFunc_int 243 #[.pointer (some ⟨w.heap.size, 0, none⟩)] w' _ _ _ (ha.mono hx) hal (pred243 w' _ A n cap m.args hn hc)
  generalize (m.args.any fun i => !hasB n i) = r at hcon ⊢
  generalize hasB n m.result = hb at hh ⊢
  have hsy := fun (j : Nat) (hj : j < m.raises.length) (w' : World) (hx : Ext w w') => isSymbol_any m.raises[j] w' (hrs _ (List.getElem_mem hj)) (hG.mono hx)
  have Hcell := Lib.hid hcell
  have Hcon := Lib.hid hcon
  have Hh := Lib.hid hh
  have Hsy := Lib.hid hsy
  clear hcell hcon hh hsy ha hr hrs hG
  obtain ⟨ok, hok⟩ : ∃ ok, (decide (m.args.length ≤ 6) && (decide (m.raises.length ≤ 6) && ((decide (m.result = -1) || hb) && !r))) = ok := ⟨_, rfl⟩
  rw [hok]
  have Hok := Lib.hid hok
  clear hok
  go_enter Tryz.func226, Tryz.ntmps226
  go_upto_region 1 with fail
  go_cut [5] (fun s5 wx => s5 = .bool ok ∧ Ext w wx ∧ wx.cell? ⟨w.heap.size + 1, 2, none⟩ = some (.slice Ar m.raises.length cr))
  case first =>
    have h0 : Ext w ((w.alloc (.cells #[.slice A n cap] 77)).alloc (.cells #[.slice Aa m.args.length ca, .int .i64 m.result, .slice Ar m.raises.length cr] 72)) := ((Ext.refl _).alloc _).alloc _
    by_cases c1 : m.args.length ≤ 6
    · by_cases c2 : m.raises.length ≤ 6
      · by_cases c3 : m.result = -1
        · have c3' : (m.result == -1) = true := by simp [c3]
          have C3 := Lib.hid c3
          clear c3
          have Hok2 : Hid ((!r) = ok) := by rw [← Hok.out, decide_eq_true c1, decide_eq_true c2, decide_eq_true C3.out]; rfl
          go_wp2_with fail
          refine (Hcon.out _ h0 (by simp)).mono ?_
          rintro e w1 ⟨rfl, hx1⟩
          have c5 := hx1.cell (v := .slice Ar m.raises.length cr) (p := ⟨w.heap.size + 1, 2, none⟩) (by simp)
          go_wp2_with fail
          go_meet
          exact ⟨by rw [← Hok2.out], h0.trans hx1, c5⟩
        · have c3' : (m.result == -1) = false := by simp [c3]
          have C3 := Lib.hid c3
          clear c3
          have Hok2 : Hid ((hb && !r) = ok) := by rw [← Hok.out, decide_eq_true c1, decide_eq_true c2, decide_eq_false C3.out]; rfl
          cases hb
          · go_wp2_with fail
            refine (Hh.out _).mono ?_
            rintro e w1 ⟨rfl, hx1⟩
            have c5 := hx1.cell (v := .slice Ar m.raises.length cr) (p := ⟨w.heap.size + 1, 2, none⟩) (by simp)
            go_wp2_with fail
            go_meet
            exact ⟨by rw [← Hok2.out]; rfl, h0.trans hx1, c5⟩
          · go_wp2_with fail
            refine (Hh.out _).mono ?_
            rintro e w1 ⟨rfl, hx1⟩
            have c5 := hx1.cell (v := .slice Ar m.raises.length cr) (p := ⟨w.heap.size + 1, 2, none⟩) (by simp)
            have c6 := hx1.cell (v := .slice Aa m.args.length ca) (p := ⟨w.heap.size + 1, 0, none⟩) (by simp)
            have c7 := hx1.cell (v := .slice A n cap) (p := ⟨w.heap.size, 0, none⟩) (by simp)
            go_wp2_with fail
            refine (Hcon.out _ (h0.trans hx1) c7).mono ?_
            rintro e w2 ⟨rfl, hx2⟩
            have c5' := hx2.cell c5
            clear c5 c6 c7
            go_wp2_with fail
            go_meet
            exact ⟨by rw [← Hok2.out]; rfl, (h0.trans hx1).trans hx2, c5'⟩
      · have Hok2 : Hid (false = ok) := by rw [← Hok.out, decide_eq_true c1, decide_eq_false c2]; rfl
        go_wp2_with fail
        go_meet
        exact ⟨by rw [← Hok2.out], h0, by simp⟩
    · have Hok2 : Hid (false = ok) := by rw [← Hok.out, decide_eq_false c1]; rfl
      go_wp2_with fail
      go_meet
      exact ⟨by rw [← Hok2.out], h0, by simp⟩
  case rest =>
    obtain ⟨rfl, hx0, h2⟩ := hcut
    clear Hok Hcon Hh
    go_wp2_with fail
    go_loopw [5, 39] (fun o k wr => ∃ (j : Nat) (okj : Bool), j ≤ m.raises.length ∧ o = .bool okj ∧ k = .int .i64 j ∧ Ext w wr ∧ wr.cell? ⟨w.heap.size + 1, 2, none⟩ = some (.slice Ar m.raises.length cr) ∧
      Hid ((ok && raisesFrom none m.raises) = (okj && raisesFrom (prevAt m.raises j) (m.raises.drop j)))) (fun _ k _ => m.raises.length - (intOf k).toNat)
    case atStart => exact ⟨0, ok, by omega, rfl, by simp, hx0, h2, by simp [Hid, prevAt]⟩
    case round =>
      obtain ⟨j, okj, hj, rfl, rfl, hx, h3, hinv⟩ := hrel
      by_cases hlt : j < m.raises.length
      · obtain ⟨b, off, rfl, h0⟩ := Hcell.out j hlt
        have h0 := hx.cell h0
        have Hinv : Hid ((ok && raisesFrom none m.raises) = (okj && (raiseOk (prevAt m.raises j) m.raises[j] && raisesFrom (prevAt m.raises (j + 1)) (m.raises.drop (j + 1))))) := by
          rw [hinv.out, raises_step _ _ hlt]; rfl
        clear hinv
        cases okj
        · go_wp2_with fail
          go_roundw
          case rel => exact ⟨j + 1, false, by omega, rfl, by go_num, hx, h3, by rw [Hinv.out]; rfl⟩
          case measure => simp [intOf]; omega
        · have Hal := Lib.hid (show (m.raises[j].toList == [65, 76, 69, 82, 84, 69, 68]) = strEq m.raises[j] alerted by rw [← alerted_toList]; rfl)
          have hprev : ∃ pl : Bool, Hid (raiseOk (prevAt m.raises j) m.raises[j] = ((strEq m.raises[j] alerted || isSymbolB m.raises[j]) && pl)) ∧
              (j = 0 ∧ pl = true ∨ ∃ i, j = i + 1 ∧ ∃ (hi : i < m.raises.length), Op.bytesLess m.raises[i].toList m.raises[j].toList = pl) := by
            cases j with
            | zero => exact ⟨true, rfl, .inl ⟨rfl, rfl⟩⟩
            | succ i => exact ⟨lessB m.raises[i] m.raises[i + 1], by simp only [Hid, raiseOk, prevAt_pos _ _ hlt], .inr ⟨i, rfl, by omega, rfl⟩⟩
          obtain ⟨pl, Hro, hpl⟩ := hprev
          have Hinv2 : Hid ((ok && raisesFrom none m.raises) = (((strEq m.raises[j] alerted || isSymbolB m.raises[j]) && pl) && raisesFrom (prevAt m.raises (j + 1)) (m.raises.drop (j + 1)))) := by
            rw [Hinv.out, Hro.out, Bool.true_and]; rfl
          have HS := Lib.hid (Hsy.out j hlt wr hx)
          generalize strEq m.raises[j] alerted = al at Hal Hinv2
          generalize isSymbolB m.raises[j] = sy at HS Hinv2
          have hal := Hal.out
          clear Hinv Hro Hal
          cases al
          · cases sy
            · go_wp2_with fail
              refine HS.out.mono ?_
              rintro e w1 ⟨rfl, hx1⟩
              have h3' := hx1.cell h3
              go_wp2_with fail
              go_roundw
              case rel => exact ⟨j + 1, false, by omega, rfl, by go_num, hx.trans hx1, h3', by rw [Hinv2.out]; rfl⟩
              case measure => simp [intOf]; omega
            · rcases hpl with ⟨rfl, rfl⟩ | ⟨i, rfl, hi, hless⟩
              · simp only [Nat.add_zero] at h0
                go_wp2_with fail
                refine HS.out.mono ?_
                rintro e w1 ⟨rfl, hx1⟩
                have h3' := hx1.cell h3
                go_wp2_with fail
                go_roundw
                case rel => exact ⟨1, true, by omega, rfl, by go_num, hx.trans hx1, h3', by rw [Hinv2.out]; rfl⟩
                case measure => simp [intOf]; omega
              · obtain ⟨b', off', hb', h0'⟩ := Hcell.out i hi
                cases hb'
                have h0' := hx.cell h0'
                have j0 : (((i + 1 : Nat) : Int) == 0) = false := by simp; omega
                go_wp2_with fail
                refine HS.out.mono ?_
                rintro e w1 ⟨rfl, hx1⟩
                have h3' := hx1.cell h3
                have h0'' := hx1.cell h0'
                go_wp2_with fail
                go_roundw
                case rel => exact ⟨i + 1 + 1, pl, by omega, by first | rfl | rw [hless], by go_num, hx.trans hx1, h3', by rw [Hinv2.out]; rfl⟩
                case measure => simp [intOf]; omega
          · rcases hpl with ⟨rfl, rfl⟩ | ⟨i, rfl, hi, hless⟩
            · simp only [Nat.add_zero] at h0
              go_wp2_with fail
              go_roundw
              case rel => exact ⟨1, true, by omega, rfl, by go_num, hx, h3, by rw [Hinv2.out]; rfl⟩
              case measure => simp [intOf]; omega
            · obtain ⟨b', off', hb', h0'⟩ := Hcell.out i hi
              cases hb'
              have h0' := hx.cell h0'
              have j0 : (((i + 1 : Nat) : Int) == 0) = false := by simp; omega
              go_wp2_with fail
              go_roundw
              case rel => exact ⟨i + 1 + 1, pl, by omega, by first | rfl | rw [hless], by go_num, hx, h3, by rw [Hinv2.out]; rfl⟩
              case measure => simp [intOf]; omega
      · go_wp2_with fail
        go_ret
        refine ⟨?_, hx⟩
        rw [hinv.out, List.drop_of_length_le (by omega)]
        cases okj <;> rfl
end Go.Proofs.YtldnjnnhfeobdaaGreatDoor
/- Contracts: what an object type has beside its brand. Conditions: lengths below 2^20. -/
namespace Go.Proofs.YtldnjnnhfeobdaaGreatDoor
set_option linter.all false
set_option linter.unusedSimpArgs false
set_option linter.unusedVariables false
open Go.RowKit Go.Shelf

def badMethod (n : Nat) (m : Method) : Bool := !sigB n m || (!strEq m.proc ByteArray.empty && !isSymbolB m.proc)
def badOver (o : Over) : Bool := !isSymbolB o.proc

def MethodSmall (m : Method) : Prop := m.name.size ≤ 1048576 ∧ m.proc.size ≤ 1048576 ∧ m.args.length ≤ 1048576 ∧ m.raises.length ≤ 1048576 ∧ ∀ r ∈ m.raises, r.size ≤ 1048576

set_option maxRecDepth 100000 in
set_option maxHeartbeats 4000000 in
theorem object3 (w : World) (B : Nat) (A : Option Addr) (n cap : Nat) (m : Method) (va vr : Value) (hn : n ≤ 1048576) (hG : Glob w) (ha : Sl intE w va m.args) (hr : Sl strE w vr m.raises) (hm : MethodSmall m)
    (hc : w.cell? ⟨B, 0, none⟩ = some (.slice A n cap)) :
    Calls Tryz.prog 225 #[.agg #[.string m.name, va, .int .i64 m.result, vr, .string m.proc], .pointer (some ⟨B, 0, none⟩)] w (Ret w (.bool (badMethod n m))) := by
  have hlt := cell_lt hc
  obtain ⟨_, hm2, hm3, hm4, hm5⟩ := hm
  have hsg := fun (w' : World) (hx : Ext w w') => signed_any w' A n cap m va vr hn (hG.mono hx) (ha.mono hx) (hr.mono hx) hm3 hm4 hm5
  have hsy := fun (w' : World) (hx : Ext w w') => isSymbol_any m.proc w' hm2 (hG.mono hx)
  obtain ⟨Aa, ca, rfl⟩ := ha.len
  obtain ⟨Ar, cr, rfl⟩ := hr.len
  unfold badMethod
  rw [strEq_empty]
  generalize sigB n m = r at hsg ⊢
  generalize isSymbolB m.proc = q at hsy ⊢
  have Hsg := Lib.hid hsg
  have Hsy := Lib.hid hsy
  clear hsg hsy ha hr hG hm5
  cases r
  · go_enter Tryz.func225, Tryz.ntmps225
    go_wp2_with fail
    refine (Hsg.out _ ((Ext.refl _).alloc _)).mono ?_
    rintro e w1 ⟨rfl, hx1⟩
    go_wp2_with fail
    go_ret
    exact ⟨rfl, ((Ext.refl _).alloc _).trans hx1⟩
  · cases hp : m.proc.toList.isEmpty
    · go_enter Tryz.func225, Tryz.ntmps225
      go_wp2_with fail
      refine (Hsg.out _ ((Ext.refl _).alloc _)).mono ?_
      rintro e w1 ⟨rfl, hx1⟩
      have c2 := hx1.cell (v := .string m.proc) (p := ⟨w.heap.size, 4, none⟩) (by simp)
      go_wp2_with fail
      refine (Hsy.out _ (((Ext.refl _).alloc _).trans hx1)).mono ?_
      rintro e w2 ⟨rfl, hx2⟩
      go_wp2_with fail
      go_ret
      exact ⟨by cases q <;> rfl, (((Ext.refl _).alloc _).trans hx1).trans hx2⟩
    · go_enter Tryz.func225, Tryz.ntmps225
      go_wp2_with fail
      refine (Hsg.out _ ((Ext.refl _).alloc _)).mono ?_
      rintro e w1 ⟨rfl, hx1⟩
      have c2 := hx1.cell (v := .string m.proc) (p := ⟨w.heap.size, 4, none⟩) (by simp)
      go_wp2_with fail
      go_ret
      exact ⟨rfl, ((Ext.refl _).alloc _).trans hx1⟩

set_option maxRecDepth 100000 in
theorem object4 (w : World) (o : Over) (hG : Glob w) (hs : o.proc.size ≤ 1048576) : Calls Tryz.prog 228 #[.agg #[.string o.name, .string o.proc]] w (Ret w (.bool (badOver o))) := by
  have hsy := fun (w' : World) (hx : Ext w w') => isSymbol_any o.proc w' hs (hG.mono hx)
  unfold badOver
  generalize isSymbolB o.proc = q at hsy ⊢
  have Hsy := Lib.hid hsy
  clear hsy hG
  go_enter Tryz.func228, Tryz.ntmps228
  go_wp2_with fail
  refine (Hsy.out _ ((Ext.refl _).alloc _)).mono ?_
  rintro e w1 ⟨rfl, hx1⟩
  go_wp2_with fail
  go_ret
  exact ⟨rfl, ((Ext.refl _).alloc _).trans hx1⟩

theorem pred225 (w : World) (B : Nat) (A : Option Addr) (n cap : Nat) (xs : List Method) (hn : n ≤ 1048576) (hG : Glob w) (hs : ∀ m ∈ xs, MethodSmall m) (hc : w.cell? ⟨B, 0, none⟩ = some (.slice A n cap)) :
    Pred methodE w 225 #[.pointer (some ⟨B, 0, none⟩)] xs (badMethod n) :=
  ⟨enters_of Tryz.func225 (by kernel_rfl) rfl, by
    rintro x hx w' A' hxt ⟨cs, ⟨va, vr, rfl, ha, hr⟩, rfl⟩
    exact object3 w' B A n cap x va vr hn (hG.mono hxt) ha hr (hs x hx) (hxt.cell hc)⟩
theorem pred228 (w : World) (xs : List Over) (hG : Glob w) (hs : ∀ o ∈ xs, o.name.size ≤ 1048576 ∧ o.proc.size ≤ 1048576) : Pred overE w 228 #[] xs badOver :=
  ⟨enters_of Tryz.func228 (by kernel_rfl) rfl, by
    rintro x hx w' A' hxt ⟨cs, rfl, rfl⟩
    exact object4 w' x (hG.mono hxt) (hs x hx).2⟩

def objectB (g : Graph) (t : Ty) : Bool :=
  !(t.methods.any (badMethod g.length) || t.overs.any badOver) && (differentB (t.methods.map Method.name) 8 && (differentB (t.overs.map Over.name) 8 && overB g t.super kindsObject))

set_option maxRecDepth 100000 in
set_option maxHeartbeats 8000000 in
theorem object_any (w : World) (gv : Value) (g : Graph) (t : Ty) (vp vm vo : Value) (hg : Sl tyE w gv g) (hgn : g.length ≤ 1048576) (hG : Glob w) (hof : TyOf w t vp vm vo) (hs : TySmall t) :
    Calls Tryz.prog 195 #[.agg #[gv], tyV t vp vm vo] w (Ret w (.bool (objectB g t))) := by
  obtain ⟨A, cap, rfl⟩ := hg.len
  obtain ⟨Ap, cp, rfl⟩ := hof.parts.len
  obtain ⟨Am, cm, rfl⟩ := hof.methods.len
  obtain ⟨Ao, co, rfl⟩ := hof.overs.len
  have hms : ∀ m ∈ t.methods, MethodSmall m := hs.method
  have hmn : ∀ s ∈ t.methods.map Method.name, s.size ≤ 1048576 := by
    intro s h; obtain ⟨p, hp, rfl⟩ := List.mem_map.1 h; exact (hs.method p hp).1
  have hon : ∀ s ∈ t.overs.map Over.name, s.size ≤ 1048576 := by
    intro s h; obtain ⟨p, hp, rfl⟩ := List.mem_map.1 h; exact (hs.over p hp).1
  have h1 := fun (w1 : World) (h1 : Ext w w1) => turned_method_str 221 #[] w1 _ t.methods Method.name (hof.methods.mono h1) hs.methods (map221 w1 t.methods)
  have h2 := fun (w1 : World) (h1 : Ext w w1) => turned_over_str 223 #[] w1 _ t.overs Over.name (hof.overs.mono h1) hs.overs (map223 w1 t.overs)
  have h3 := fun (w' : World) (hx : Ext w w') (hc : w'.cell? ⟨w.heap.size, 0, none⟩ = some (.slice A g.length cap)) =>
    containsFunc_method 225 #[.pointer (some ⟨w.heap.size, 0, none⟩)] w' _ _ _ (hof.methods.mono hx) hs.methods (pred225 w' _ A g.length cap t.methods hgn (hG.mono hx) hms hc)
  have h4 := fun (w' : World) (hx : Ext w w') => containsFunc_over 228 #[] w' _ _ _ (hof.overs.mono hx) hs.overs (pred228 w' t.overs (hG.mono hx) hs.over)
  have h5 := fun (w1 : World) (v : Value) (h1 : Sl strE w1 v (t.methods.map Method.name)) => different_any w1 v (t.methods.map Method.name) 8 h1 (by simpa using hs.methods) hmn
  have h6 := fun (w1 : World) (v : Value) (h1 : Sl strE w1 v (t.overs.map Over.name)) => different_any w1 v (t.overs.map Over.name) 8 h1 (by simpa using hs.overs) hon
  have h7 := fun (w1 : World) (v : Value) (h1 : Ext w w1) (h2 : Sl byteE w1 v kindsObject) => over_any w1 _ v g t.super kindsObject (hg.mono h1) h2 hgn (by decide)
  unfold objectB tyV
  have H1 := Lib.hid h1
  have H2 := Lib.hid h2
  have H3 := Lib.hid h3
  have H4 := Lib.hid h4
  have H5 := Lib.hid h5
  have H6 := Lib.hid h6
  have H7 := Lib.hid h7
  have hnm := hs.methods
  have hno := hs.overs
  clear h1 h2 h3 h4 h5 h6 h7 hg hG hof hs hms hmn hon
  generalize t.methods.any (badMethod g.length) = r3 at H3 ⊢
  generalize t.overs.any badOver = r4 at H4 ⊢
  generalize differentB (t.methods.map Method.name) 8 = r5 at H5 ⊢
  generalize differentB (t.overs.map Over.name) 8 = r6 at H6 ⊢
  generalize overB g t.super kindsObject = r7 at H7 ⊢
  go_enter Tryz.func195, Tryz.ntmps195
  go_wp2_with fail
  refine (H1.out _ (((Ext.refl _).alloc _).alloc _)).mono ?_
  rintro e w1 ⟨v1, rfl, hs1, hx1⟩
  have hsl1 := hs1.any
  obtain ⟨A1, cap1, e1⟩ := hsl1.len
  rw [List.length_map] at e1
  subst e1
  have hxa := (((Ext.refl w).alloc _).alloc _).trans hx1
  have c9 := hx1.cell (v := .slice Ao t.overs.length co) (p := ⟨w.heap.size + 1, 9, none⟩) (by simp)
  have c8 := hx1.cell (v := .slice Am t.methods.length cm) (p := ⟨w.heap.size + 1, 8, none⟩) (by simp)
  have c6 := hx1.cell (v := .int .i64 t.super) (p := ⟨w.heap.size + 1, 6, none⟩) (by simp)
  have cg := hx1.cell (v := .slice A g.length cap) (p := ⟨w.heap.size, 0, none⟩) (by simp)
  have Hsl1 := Lib.hid hsl1
  clear hs1 hsl1 hx1
  go_wp2_with fail
  refine (H2.out _ hxa).mono ?_
  rintro e w2 ⟨v2, rfl, hs2, hx2⟩
  have hsl2 := hs2.any
  obtain ⟨A2, cap2, e2⟩ := hsl2.len
  rw [List.length_map] at e2
  subst e2
  have hxb := hxa.trans hx2
  replace c9 := hx2.cell c9
  replace c8 := hx2.cell c8
  replace c6 := hx2.cell c6
  replace cg := hx2.cell cg
  replace Hsl1 := Lib.hid (Hsl1.out.mono hx2)
  have Hsl2 := Lib.hid hsl2
  clear hs2 hsl2 hx2 hxa
  go_wp2_with fail
  refine (H3.out _ hxb cg).mono ?_
  rintro e w3 ⟨rfl, hx3⟩
  have hxc := hxb.trans hx3
  replace c9 := hx3.cell c9
  replace c6 := hx3.cell c6
  replace cg := hx3.cell cg
  replace Hsl1 := Lib.hid (Hsl1.out.mono hx3)
  replace Hsl2 := Lib.hid (Hsl2.out.mono hx3)
  clear hx3 hxb c8
  cases r3
  · go_wp2_with fail
    refine (H4.out _ hxc).mono ?_
    rintro e w4 ⟨rfl, hx4⟩
    have hxd := hxc.trans hx4
    replace c9 := hx4.cell c9
    replace c6 := hx4.cell c6
    replace cg := hx4.cell cg
    replace Hsl1 := Lib.hid (Hsl1.out.mono hx4)
    replace Hsl2 := Lib.hid (Hsl2.out.mono hx4)
    clear hx4 hxc
    cases r4
    · go_wp2_with fail
      refine (H5.out _ _ Hsl1.out).mono ?_
      rintro e w5 ⟨rfl, hx5⟩
      have hxe := hxd.trans hx5
      replace c6 := hx5.cell c6
      replace cg := hx5.cell cg
      replace Hsl2 := Lib.hid (Hsl2.out.mono hx5)
      clear hx5 hxd Hsl1 c9
      cases r5
      · go_wp2_with fail
        go_ret
        exact ⟨rfl, hxe⟩
      · go_wp2_with fail
        refine (H6.out _ _ Hsl2.out).mono ?_
        rintro e w6 ⟨rfl, hx6⟩
        have hxf := hxe.trans hx6
        replace c6 := hx6.cell c6
        replace cg := hx6.cell cg
        clear hx6 hxe Hsl2
        cases r6
        · go_wp2_with fail
          go_ret
          exact ⟨rfl, hxf⟩
        · go_wp2_with fail
          refine (H7.out _ _ (hxf.alloc _) (lit_bytes w6 kindsObject 5 rfl)).mono ?_
          rintro e w7 ⟨rfl, hx7⟩
          have hxg := (hxf.alloc _).trans hx7
          go_wp2_with fail
          go_ret
          exact ⟨rfl, hxg⟩
    · go_wp2_with fail
      go_ret
      exact ⟨rfl, hxd⟩
  · go_wp2_with fail
    go_ret
    exact ⟨rfl, hxc⟩
end Go.Proofs.YtldnjnnhfeobdaaGreatDoor
