/- Parts of the proof, joined: Contract: agree. Conditions: lengths below 2^20; Words and small contracts for classes: rows of ints that are written, the function values that look into them. Conditions: lengths below 2^20; Contract: reach: what ways lead to. Conditions: a right graph; a quiet function value for classes; Contract: classes. Conditions: a well-formed graph, lengths below 2^20; Contracts: Equal, Word, Classes. Conditions: lengths below 2^20. -/
import Derived.Deep.RegionHeld3
import Derived.Deep.LoopGhost
import Derived.Laws.NewBlocks
import Derived.RangeFuncWrites
import Derived.Test.YtldnjnnhfeobdaaGreatDoorG03
import Derived.Test.YtldnjnnhfeobdaaGreatDoorG02
namespace Go.Proofs.YtldnjnnhfeobdaaGreatDoor
set_option linter.all false
set_option linter.unusedSimpArgs false
set_option linter.unusedVariables false
open Go.RowKit Go.Shelf

theorem pred105 (w : World) (xs ys : List Part) : Pred2 partE w 105 #[] xs ys partEq :=
  ⟨enters_of Tryz.func105 (by kernel_rfl) rfl, by
    rintro x _ y _ w' A B hx ⟨cs, rfl, rfl⟩ ⟨ds, rfl, rfl⟩
    exact agree1_any w' x y⟩
set_option maxRecDepth 100000 in
theorem pred106 (w : World) (xs ys : List Method) (hx : ∀ m ∈ xs, MethodSmall m) (hy : ∀ m ∈ ys, MethodSmall m) : Pred2 methodE w 106 #[] xs ys sameMethodB :=
  ⟨enters_of Tryz.func106 (by kernel_rfl) rfl, by
    intro x mx y my w' A B hxt hA hB
    obtain ⟨cs, ⟨va, vr, rfl, ha, hr⟩, rfl⟩ := hA
    obtain ⟨ds, ⟨ua, ur, rfl, ga, gr⟩, rfl⟩ := hB
    obtain ⟨A1, c1, e1⟩ := Sl.len ha
    obtain ⟨A2, c2, e2⟩ := Sl.len hr
    obtain ⟨B1, d1, e3⟩ := Sl.len ga
    obtain ⟨B2, d2, e4⟩ := Sl.len gr
    subst e1 e2 e3 e4
    have h := sameMethods_any w' x y A1 B1 A2 B2 c1 d1 c2 d2 hr gr (hx x mx).2.2.2.1 (hy y my).2.2.2.1
    simpa only [pack, Array.append_empty] using h⟩
theorem alloc2_first (W : World) (o1 o2 : Obj) : ((W.alloc o1).alloc o2).drew.heap[W.heap.size]? = some o1 := by
  have h := (Below.heap_alloc (W.alloc o1) o2 W.heap.size (by simp)).trans (heap_alloc_self W o1)
  exact h
theorem alloc2_second (W : World) (o1 o2 : Obj) : ((W.alloc o1).alloc o2).drew.heap[W.heap.size + 1]? = some o2 := by
  have h := heap_alloc_self (W.alloc o1) o2
  rw [World.size_alloc] at h
  exact h
theorem plain_eq (x y : Ty) : plainB7 x.kind x.low x.high x.branded x.brand x.opaq 0 y.kind y.low y.high y.branded y.brand y.opaq 0 = plainEqB x y := by
  unfold plainB7 plainEqB; simp
theorem TyBox.cells {w : World} {b : Nat} {t : Ty} {vp vm vo : Value} (h : w.heap[b]? = some (.cells #[.int .u8 t.kind, .int .i64 t.low, .int .i64 t.high, .bool t.branded, .string t.brand, .string t.opaq, .int .i64 t.super, vp, vm, vo] 42 (0, 0))) : TyBox w b t vp vm vo := h

set_option maxRecDepth 100000 in
set_option maxHeartbeats 8000000 in
theorem agree_types (w : World) (A : Option Addr) (cap n i j : Nat) (x y : Ty) (xp xm xo yp ym yo : Value) (hi : i < n) (hj : j < n) (hn : n ≤ 1048576) (hx : TySmall x) (hy : TySmall y)
    (hox : TyOf w x xp xm xo) (hoy : TyOf w y yp ym yo) (hA : ∃ b off, A = some ⟨b, off, none⟩ ∧ TyAt w b (off + i * 10) x xp xm xo ∧ TyAt w b (off + j * 10) y yp ym yo) :
    Calls Tryz.prog 55 #[.agg #[.slice A n cap], .int .i64 i, .int .i64 j] w (Ret w (.bool (agreeT x y))) := by
  obtain ⟨b, off, rfl, hax, hay⟩ := hA
  have hparts := fun (w' : World) (h : Ext w w') => equalFunc_part 105 #[] w' _ _ x.parts y.parts partEq (hox.parts.mono h) (hoy.parts.mono h) hx.parts hy.parts (pred105 w' _ _)
  have hmeths := fun (w' : World) (h : Ext w w') => equalFunc_method 106 #[] w' _ _ x.methods y.methods sameMethodB (hox.methods.mono h) (hoy.methods.mono h) hx.methods hy.methods (pred106 w' _ _ hx.method hy.method)
  have hovers := fun (w' : World) (h : Ext w w') => equal_over w' _ _ x.overs y.overs (hox.overs.mono h) (hoy.overs.mono h) hx.overs hy.overs
  obtain ⟨A1, c1, e1⟩ := hox.parts.len
  obtain ⟨A2, c2, e2⟩ := hox.methods.len
  obtain ⟨A3, c3, e3⟩ := hox.overs.len
  obtain ⟨B1, p1, e4⟩ := hoy.parts.len
  obtain ⟨B2, p2, e5⟩ := hoy.methods.len
  obtain ⟨B3, p3, e6⟩ := hoy.overs.len
  subst e1 e2 e3 e4 e5 e6
  have heq := fun w' => eql_plain x.kind x.low x.high x.branded x.brand x.opaq 0 y.kind y.low y.high y.branded y.brand y.opaq 0 w'
  rw [plain_eq] at heq
  have hpx := fun w' => plainOf_any w' x A1 A2 A3 x.parts.length x.methods.length x.overs.length c1 c2 c3
  have hpy := fun w' => plainOf_any w' y B1 B2 B3 y.parts.length y.methods.length y.overs.length p1 p2 p3
  unfold plainV at hpx hpy
  unfold agreeT
  generalize plainEqB x y = q1 at heq ⊢
  generalize eqF partEq x.parts y.parts = q2 at hparts ⊢
  generalize eqF sameMethodB x.methods y.methods = q3 at hmeths ⊢
  generalize eqF overEq x.overs y.overs = q4 at hovers ⊢
  have Hparts := Lib.hid hparts
  have Hmeths := Lib.hid hmeths
  have Hovers := Lib.hid hovers
  have Heq := Lib.hid heq
  have Hpx := Lib.hid hpx
  have Hpy := Lib.hid hpy
  obtain ⟨d0, d1, d2, d3, d4, d5, d6, d7, d8, d9⟩ := hax
  obtain ⟨f0, f1, f2, f3, f4, f5, f6, f7, f8, f9⟩ := hay
  have hi0 : (0 : Int) ≤ (i : Int) := by omega
  have hi1 : (i : Int) < (n : Int) := by omega
  have hj0 : (0 : Int) ≤ (j : Int) := by omega
  have hj1 : (j : Int) < (n : Int) := by omega
  have hb := cell_lt d0
  clear hparts hmeths hovers heq hpx hpy hox hoy hx hy
  go_enter Tryz.func55, Tryz.ntmps55
  go_wp2_with fail
  go_cut [7, 8] (fun s7 s8 wx => Hid (Ext w wx) ∧ ∃ b7 b8, s7 = .pointer (some ⟨b7, 0, none⟩) ∧ s8 = .pointer (some ⟨b8, 0, none⟩) ∧ Hid (TyBox wx b7 x (.slice A1 x.parts.length c1) (.slice A2 x.methods.length c2) (.slice A3 x.overs.length c3)) ∧ Hid (TyBox wx b8 y (.slice B1 y.parts.length p1) (.slice B2 y.methods.length p2) (.slice B3 y.overs.length p3)))
  case first =>
    have hW := (Ext.refl w).alloc (.cells #[.slice (some ⟨b, off, none⟩) n cap] 77)
    have Hw := Lib.hid hW
    have hS : ∀ w', Ext (w.alloc (.cells #[.slice (some ⟨b, off, none⟩) n cap] 77)) w' → (w'.cell? ⟨w.heap.size, 0, none⟩ = some (.slice (some ⟨b, off, none⟩) n cap) ∧ w'.cell? ⟨b, off + i * 10, none⟩ = some (.int .u8 x.kind) ∧ w'.cell? ⟨b, off + i * 10 + 1, none⟩ = some (.int .i64 x.low) ∧ w'.cell? ⟨b, off + i * 10 + 2, none⟩ = some (.int .i64 x.high) ∧ w'.cell? ⟨b, off + i * 10 + 3, none⟩ = some (.bool x.branded) ∧ w'.cell? ⟨b, off + i * 10 + 4, none⟩ = some (.string x.brand) ∧ w'.cell? ⟨b, off + i * 10 + 5, none⟩ = some (.string x.opaq) ∧ w'.cell? ⟨b, off + i * 10 + 6, none⟩ = some (.int .i64 x.super) ∧ w'.cell? ⟨b, off + i * 10 + 7, none⟩ = some (.slice A1 x.parts.length c1) ∧ w'.cell? ⟨b, off + i * 10 + 8, none⟩ = some (.slice A2 x.methods.length c2) ∧ w'.cell? ⟨b, off + i * 10 + 9, none⟩ = some (.slice A3 x.overs.length c3) ∧ w'.cell? ⟨b, off + j * 10, none⟩ = some (.int .u8 y.kind) ∧ w'.cell? ⟨b, off + j * 10 + 1, none⟩ = some (.int .i64 y.low) ∧ w'.cell? ⟨b, off + j * 10 + 2, none⟩ = some (.int .i64 y.high) ∧ w'.cell? ⟨b, off + j * 10 + 3, none⟩ = some (.bool y.branded) ∧ w'.cell? ⟨b, off + j * 10 + 4, none⟩ = some (.string y.brand) ∧ w'.cell? ⟨b, off + j * 10 + 5, none⟩ = some (.string y.opaq) ∧ w'.cell? ⟨b, off + j * 10 + 6, none⟩ = some (.int .i64 y.super) ∧ w'.cell? ⟨b, off + j * 10 + 7, none⟩ = some (.slice B1 y.parts.length p1) ∧ w'.cell? ⟨b, off + j * 10 + 8, none⟩ = some (.slice B2 y.methods.length p2) ∧ w'.cell? ⟨b, off + j * 10 + 9, none⟩ = some (.slice B3 y.overs.length p3)) := fun w' h =>
      ⟨h.cell (by simp), h.cell (Hw.out.cell d0), h.cell (Hw.out.cell d1), h.cell (Hw.out.cell d2), h.cell (Hw.out.cell d3), h.cell (Hw.out.cell d4), h.cell (Hw.out.cell d5), h.cell (Hw.out.cell d6), h.cell (Hw.out.cell d7), h.cell (Hw.out.cell d8), h.cell (Hw.out.cell d9), h.cell (Hw.out.cell f0), h.cell (Hw.out.cell f1), h.cell (Hw.out.cell f2), h.cell (Hw.out.cell f3), h.cell (Hw.out.cell f4), h.cell (Hw.out.cell f5), h.cell (Hw.out.cell f6), h.cell (Hw.out.cell f7), h.cell (Hw.out.cell f8), h.cell (Hw.out.cell f9)⟩
    have HS := Lib.hid hS
    clear hW hS d0 f0 d1 f1 d2 f2 d3 f3 d4 f4 d5 f5 d6 f6 d7 f7 d8 f8 d9 f9
    go_region_held3 (fun w' => w'.cell? ⟨w.heap.size, 0, none⟩ = some (.slice (some ⟨b, off, none⟩) n cap) ∧ w'.cell? ⟨b, off + i * 10, none⟩ = some (.int .u8 x.kind) ∧ w'.cell? ⟨b, off + i * 10 + 1, none⟩ = some (.int .i64 x.low) ∧ w'.cell? ⟨b, off + i * 10 + 2, none⟩ = some (.int .i64 x.high) ∧ w'.cell? ⟨b, off + i * 10 + 3, none⟩ = some (.bool x.branded) ∧ w'.cell? ⟨b, off + i * 10 + 4, none⟩ = some (.string x.brand) ∧ w'.cell? ⟨b, off + i * 10 + 5, none⟩ = some (.string x.opaq) ∧ w'.cell? ⟨b, off + i * 10 + 6, none⟩ = some (.int .i64 x.super) ∧ w'.cell? ⟨b, off + i * 10 + 7, none⟩ = some (.slice A1 x.parts.length c1) ∧ w'.cell? ⟨b, off + i * 10 + 8, none⟩ = some (.slice A2 x.methods.length c2) ∧ w'.cell? ⟨b, off + i * 10 + 9, none⟩ = some (.slice A3 x.overs.length c3) ∧ w'.cell? ⟨b, off + j * 10, none⟩ = some (.int .u8 y.kind) ∧ w'.cell? ⟨b, off + j * 10 + 1, none⟩ = some (.int .i64 y.low) ∧ w'.cell? ⟨b, off + j * 10 + 2, none⟩ = some (.int .i64 y.high) ∧ w'.cell? ⟨b, off + j * 10 + 3, none⟩ = some (.bool y.branded) ∧ w'.cell? ⟨b, off + j * 10 + 4, none⟩ = some (.string y.brand) ∧ w'.cell? ⟨b, off + j * 10 + 5, none⟩ = some (.string y.opaq) ∧ w'.cell? ⟨b, off + j * 10 + 6, none⟩ = some (.int .i64 y.super) ∧ w'.cell? ⟨b, off + j * 10 + 7, none⟩ = some (.slice B1 y.parts.length p1) ∧ w'.cell? ⟨b, off + j * 10 + 8, none⟩ = some (.slice B2 y.methods.length p2) ∧ w'.cell? ⟨b, off + j * 10 + 9, none⟩ = some (.slice B3 y.overs.length p3)) (first | exact HS.out _ (Ext.refl _).drew | exact HS.out _ ((Ext.refl _).drew.alloc _) | exact HS.out _ (((Ext.refl _).drew.alloc _).alloc _)) (fail)
    · go_wp2_with fail
      go_meet
      refine ⟨Lib.hid ((Hw.out.alloc _).alloc _).drew, _, _, rfl, rfl, ?_, ?_⟩
      · have h := alloc2_first (w.alloc (.cells #[.slice (some ⟨b, off, none⟩) n cap] 77)) (.cells #[.int .u8 x.kind, .int .i64 x.low, .int .i64 x.high, .bool x.branded, .string x.brand, .string x.opaq, .int .i64 x.super, .slice A1 x.parts.length c1, .slice A2 x.methods.length c2, .slice A3 x.overs.length c3] 42) (.cells #[.int .u8 y.kind, .int .i64 y.low, .int .i64 y.high, .bool y.branded, .string y.brand, .string y.opaq, .int .i64 y.super, .slice B1 y.parts.length p1, .slice B2 y.methods.length p2, .slice B3 y.overs.length p3] 42)
        rw [World.size_alloc] at h
        exact h
      · have h := alloc2_second (w.alloc (.cells #[.slice (some ⟨b, off, none⟩) n cap] 77)) (.cells #[.int .u8 x.kind, .int .i64 x.low, .int .i64 x.high, .bool x.branded, .string x.brand, .string x.opaq, .int .i64 x.super, .slice A1 x.parts.length c1, .slice A2 x.methods.length c2, .slice A3 x.overs.length c3] 42) (.cells #[.int .u8 y.kind, .int .i64 y.low, .int .i64 y.high, .bool y.branded, .string y.brand, .string y.opaq, .int .i64 y.super, .slice B1 y.parts.length p1, .slice B2 y.methods.length p2, .slice B3 y.overs.length p3] 42)
        rw [World.size_alloc] at h
        exact h
    · go_wp2_with fail
      go_meet
      refine ⟨Lib.hid ((Hw.out.alloc _).alloc _).drew, _, _, rfl, rfl, ?_, ?_⟩
      · have h := alloc2_second (w.alloc (.cells #[.slice (some ⟨b, off, none⟩) n cap] 77)) (.cells #[.int .u8 y.kind, .int .i64 y.low, .int .i64 y.high, .bool y.branded, .string y.brand, .string y.opaq, .int .i64 y.super, .slice B1 y.parts.length p1, .slice B2 y.methods.length p2, .slice B3 y.overs.length p3] 42) (.cells #[.int .u8 x.kind, .int .i64 x.low, .int .i64 x.high, .bool x.branded, .string x.brand, .string x.opaq, .int .i64 x.super, .slice A1 x.parts.length c1, .slice A2 x.methods.length c2, .slice A3 x.overs.length c3] 42)
        rw [World.size_alloc] at h
        exact h
      · have h := alloc2_first (w.alloc (.cells #[.slice (some ⟨b, off, none⟩) n cap] 77)) (.cells #[.int .u8 y.kind, .int .i64 y.low, .int .i64 y.high, .bool y.branded, .string y.brand, .string y.opaq, .int .i64 y.super, .slice B1 y.parts.length p1, .slice B2 y.methods.length p2, .slice B3 y.overs.length p3] 42) (.cells #[.int .u8 x.kind, .int .i64 x.low, .int .i64 x.high, .bool x.branded, .string x.brand, .string x.opaq, .int .i64 x.super, .slice A1 x.parts.length c1, .slice A2 x.methods.length c2, .slice A3 x.overs.length c3] 42)
        rw [World.size_alloc] at h
        exact h
  case rest =>
    clear d0 d1 d2 d3 d4 d5 d6 d7 d8 d9 f0 f1 f2 f3 f4 f5 f6 f7 f8 f9 hb
    obtain ⟨Hx, b7, b8, rfl, rfl, Hb7, Hb8⟩ := hcut
    obtain ⟨d0, d1, d2, d3, d4, d5, d6, d7, d8, d9⟩ := Hb7.out.at
    obtain ⟨f0, f1, f2, f3, f4, f5, f6, f7, f8, f9⟩ := Hb8.out.at
    simp only [Nat.zero_add] at d0 d1 d2 d3 d4 d5 d6 d7 d8 d9 f0 f1 f2 f3 f4 f5 f6 f7 f8 f9
    go_wp2_with fail
    refine (Hparts.out _ Hx.out).mono ?_
    rintro e w1 ⟨rfl, hx1⟩
    replace Hx := Lib.hid (Hx.out.trans hx1)
    replace Hb7 := Lib.hid (Hb7.out.ext hx1)
    replace Hb8 := Lib.hid (Hb8.out.ext hx1)
    clear d0 d1 d2 d3 d4 d5 d6 d7 d8 d9 f0 f1 f2 f3 f4 f5 f6 f7 f8 f9 hx1
    obtain ⟨d0, d1, d2, d3, d4, d5, d6, d7, d8, d9⟩ := Hb7.out.at
    obtain ⟨f0, f1, f2, f3, f4, f5, f6, f7, f8, f9⟩ := Hb8.out.at
    simp only [Nat.zero_add] at d0 d1 d2 d3 d4 d5 d6 d7 d8 d9 f0 f1 f2 f3 f4 f5 f6 f7 f8 f9
    have g109 := fun x y xs ys w => guard109 .eql x y xs ys w
    have heq := Heq.out
    cases q1
    · go_wp2_with fail
      refine wp_region_X (by kernel_rfl) (by kernel_rfl) (fun w3 => Ext w1 w3) ((Ext.refl _).drew) ?_
      refine X_want rfl ?_
      refine X_val (v := ?_) (fun w1 hC => ?_) ?_
      rotate_left
      · have q_d0 := hC.cell d0
        have q_d1 := hC.cell d1
        have q_d2 := hC.cell d2
        have q_d3 := hC.cell d3
        have q_d4 := hC.cell d4
        have q_d5 := hC.cell d5
        have q_d6 := hC.cell d6
        have q_d7 := hC.cell d7
        have q_d8 := hC.cell d8
        have q_d9 := hC.cell d9
        have q_f0 := hC.cell f0
        have q_f1 := hC.cell f1
        have q_f2 := hC.cell f2
        have q_f3 := hC.cell f3
        have q_f4 := hC.cell f4
        have q_f5 := hC.cell f5
        have q_f6 := hC.cell f6
        have q_f7 := hC.cell f7
        have q_f8 := hC.cell f8
        have q_f9 := hC.cell f9
        go_simp
        (first | done | exact rfl)
      simp only [Act.put, List.setIfInBounds_toArray, List.set_cons_zero, List.set_cons_succ]
      refine X_want rfl ?_
      refine X_call (v := .agg #[.int .u8 x.kind, .int .i64 x.low, .int .i64 x.high, .bool x.branded, .string x.brand, .string x.opaq, .int .i64 0]) (f := 78) (args := #[.agg #[.int .u8 x.kind, .int .i64 x.low, .int .i64 x.high, .bool x.branded, .string x.brand, .string x.opaq, .int .i64 x.super, .slice A1 x.parts.length c1, .slice A2 x.methods.length c2, .slice A3 x.overs.length c3]]) (fun w1 => ?_) (fun w1 hC => (Hpx.out w1).mono fun e w2 ⟨he, hx⟩ => ⟨he, hC.trans hx⟩) ?_
      · go_simp
      simp only [Act.put, List.setIfInBounds_toArray, List.set_cons_zero, List.set_cons_succ]
      refine X_want rfl ?_
      refine X_val (v := ?_) (fun w1 hC => ?_) ?_
      rotate_left
      · have q_d0 := hC.cell d0
        have q_d1 := hC.cell d1
        have q_d2 := hC.cell d2
        have q_d3 := hC.cell d3
        have q_d4 := hC.cell d4
        have q_d5 := hC.cell d5
        have q_d6 := hC.cell d6
        have q_d7 := hC.cell d7
        have q_d8 := hC.cell d8
        have q_d9 := hC.cell d9
        have q_f0 := hC.cell f0
        have q_f1 := hC.cell f1
        have q_f2 := hC.cell f2
        have q_f3 := hC.cell f3
        have q_f4 := hC.cell f4
        have q_f5 := hC.cell f5
        have q_f6 := hC.cell f6
        have q_f7 := hC.cell f7
        have q_f8 := hC.cell f8
        have q_f9 := hC.cell f9
        go_simp
        (first | done | exact rfl)
      simp only [Act.put, List.setIfInBounds_toArray, List.set_cons_zero, List.set_cons_succ]
      refine X_want rfl ?_
      refine X_call (v := .agg #[.int .u8 y.kind, .int .i64 y.low, .int .i64 y.high, .bool y.branded, .string y.brand, .string y.opaq, .int .i64 0]) (f := 78) (args := #[.agg #[.int .u8 y.kind, .int .i64 y.low, .int .i64 y.high, .bool y.branded, .string y.brand, .string y.opaq, .int .i64 y.super, .slice B1 y.parts.length p1, .slice B2 y.methods.length p2, .slice B3 y.overs.length p3]]) (fun w1 => ?_) (fun w1 hC => (Hpy.out w1).mono fun e w2 ⟨he, hx⟩ => ⟨he, hC.trans hx⟩) ?_
      · go_simp
      simp only [Act.put, List.setIfInBounds_toArray, List.set_cons_zero, List.set_cons_succ]
      refine X_want rfl ?_
      refine X_val (v := ?_) (fun w1 hC => ?_) ?_
      rotate_left
      · go_simp
        (first | done | exact rfl)
      simp only [Act.put, List.setIfInBounds_toArray, List.set_cons_zero, List.set_cons_succ]
      refine X_want rfl ?_
      refine X_val (v := ?_) (fun w1 hC => ?_) ?_
      rotate_left
      · go_simp
        (first | done | exact rfl)
      simp only [Act.put, List.setIfInBounds_toArray, List.set_cons_zero, List.set_cons_succ]
      refine X_skip rfl ?_
      simp only [Act.put, List.setIfInBounds_toArray, List.set_cons_zero, List.set_cons_succ]
      refine X_want rfl ?_
      refine X_val (v := ?_) (fun w1 hC => ?_) ?_
      rotate_left
      · go_simp
        (first | done | exact rfl)
      simp only [Act.put, List.setIfInBounds_toArray, List.set_cons_zero, List.set_cons_succ]
      refine X_want rfl ?_
      refine X_val (v := ?_) (fun w1 hC => ?_) ?_
      rotate_left
      · go_simp
        (first | done | exact rfl)
      simp only [Act.put, List.setIfInBounds_toArray, List.set_cons_zero, List.set_cons_succ]
      refine X_skip rfl ?_
      simp only [Act.put, List.setIfInBounds_toArray, List.set_cons_zero, List.set_cons_succ]
      refine X_skip rfl ?_
      simp only [Act.put, List.setIfInBounds_toArray, List.set_cons_zero, List.set_cons_succ]
      refine X_skip rfl ?_
      simp only [Act.put, List.setIfInBounds_toArray, List.set_cons_zero, List.set_cons_succ]
      refine X_skip rfl ?_
      simp only [Act.put, List.setIfInBounds_toArray, List.set_cons_zero, List.set_cons_succ]
      refine X_skip rfl ?_
      simp only [Act.put, List.setIfInBounds_toArray, List.set_cons_zero, List.set_cons_succ]
      refine X_want rfl ?_
      refine X_val (v := ?_) (fun w1 hC => ?_) ?_
      rotate_left
      · go_simp
        (first | done | exact rfl)
      simp only [Act.put, List.setIfInBounds_toArray, List.set_cons_zero, List.set_cons_succ]
      refine X_want rfl ?_
      refine X_val (v := ?_) (fun w1 hC => ?_) ?_
      rotate_left
      · go_simp
        (first | done | exact rfl)
      simp only [Act.put, List.setIfInBounds_toArray, List.set_cons_zero, List.set_cons_succ]
      refine X_skip rfl ?_
      simp only [Act.put, List.setIfInBounds_toArray, List.set_cons_zero, List.set_cons_succ]
      refine X_skip rfl ?_
      simp only [Act.put, List.setIfInBounds_toArray, List.set_cons_zero, List.set_cons_succ]
      refine X_skip rfl ?_
      simp only [Act.put, List.setIfInBounds_toArray, List.set_cons_zero, List.set_cons_succ]
      refine X_skip rfl ?_
      simp only [Act.put, List.setIfInBounds_toArray, List.set_cons_zero, List.set_cons_succ]
      refine X_skip rfl ?_
      simp only [Act.put, List.setIfInBounds_toArray, List.set_cons_zero, List.set_cons_succ]
      refine X_want rfl ?_
      refine X_val (v := ?_) (fun w1 hC => ?_) ?_
      rotate_left
      · go_simp
        (first | done | exact rfl)
      simp only [Act.put, List.setIfInBounds_toArray, List.set_cons_zero, List.set_cons_succ]
      refine X_want rfl ?_
      refine X_val (v := ?_) (fun w1 hC => ?_) ?_
      rotate_left
      · go_simp
        (first | done | exact rfl)
      simp only [Act.put, List.setIfInBounds_toArray, List.set_cons_zero, List.set_cons_succ]
      refine wpQuiet_nil ?_
      intro w3 hx3
      go_wp2_with fail
      go_ret
      exact ⟨by first | rfl | simp, Hx.out.trans hx3⟩
    · cases q2
      · go_wp2_with fail
        refine wp_region_X (by kernel_rfl) (by kernel_rfl) (fun w3 => Ext w1 w3) ((Ext.refl _).drew) ?_
        refine X_want rfl ?_
        refine X_val (v := ?_) (fun w1 hC => ?_) ?_
        rotate_left
        · have q_d0 := hC.cell d0
          have q_d1 := hC.cell d1
          have q_d2 := hC.cell d2
          have q_d3 := hC.cell d3
          have q_d4 := hC.cell d4
          have q_d5 := hC.cell d5
          have q_d6 := hC.cell d6
          have q_d7 := hC.cell d7
          have q_d8 := hC.cell d8
          have q_d9 := hC.cell d9
          have q_f0 := hC.cell f0
          have q_f1 := hC.cell f1
          have q_f2 := hC.cell f2
          have q_f3 := hC.cell f3
          have q_f4 := hC.cell f4
          have q_f5 := hC.cell f5
          have q_f6 := hC.cell f6
          have q_f7 := hC.cell f7
          have q_f8 := hC.cell f8
          have q_f9 := hC.cell f9
          go_simp
          (first | done | exact rfl)
        simp only [Act.put, List.setIfInBounds_toArray, List.set_cons_zero, List.set_cons_succ]
        refine X_want rfl ?_
        refine X_call (v := .agg #[.int .u8 x.kind, .int .i64 x.low, .int .i64 x.high, .bool x.branded, .string x.brand, .string x.opaq, .int .i64 0]) (f := 78) (args := #[.agg #[.int .u8 x.kind, .int .i64 x.low, .int .i64 x.high, .bool x.branded, .string x.brand, .string x.opaq, .int .i64 x.super, .slice A1 x.parts.length c1, .slice A2 x.methods.length c2, .slice A3 x.overs.length c3]]) (fun w1 => ?_) (fun w1 hC => (Hpx.out w1).mono fun e w2 ⟨he, hx⟩ => ⟨he, hC.trans hx⟩) ?_
        · go_simp
        simp only [Act.put, List.setIfInBounds_toArray, List.set_cons_zero, List.set_cons_succ]
        refine X_want rfl ?_
        refine X_val (v := ?_) (fun w1 hC => ?_) ?_
        rotate_left
        · have q_d0 := hC.cell d0
          have q_d1 := hC.cell d1
          have q_d2 := hC.cell d2
          have q_d3 := hC.cell d3
          have q_d4 := hC.cell d4
          have q_d5 := hC.cell d5
          have q_d6 := hC.cell d6
          have q_d7 := hC.cell d7
          have q_d8 := hC.cell d8
          have q_d9 := hC.cell d9
          have q_f0 := hC.cell f0
          have q_f1 := hC.cell f1
          have q_f2 := hC.cell f2
          have q_f3 := hC.cell f3
          have q_f4 := hC.cell f4
          have q_f5 := hC.cell f5
          have q_f6 := hC.cell f6
          have q_f7 := hC.cell f7
          have q_f8 := hC.cell f8
          have q_f9 := hC.cell f9
          go_simp
          (first | done | exact rfl)
        simp only [Act.put, List.setIfInBounds_toArray, List.set_cons_zero, List.set_cons_succ]
        refine X_want rfl ?_
        refine X_call (v := .agg #[.int .u8 y.kind, .int .i64 y.low, .int .i64 y.high, .bool y.branded, .string y.brand, .string y.opaq, .int .i64 0]) (f := 78) (args := #[.agg #[.int .u8 y.kind, .int .i64 y.low, .int .i64 y.high, .bool y.branded, .string y.brand, .string y.opaq, .int .i64 y.super, .slice B1 y.parts.length p1, .slice B2 y.methods.length p2, .slice B3 y.overs.length p3]]) (fun w1 => ?_) (fun w1 hC => (Hpy.out w1).mono fun e w2 ⟨he, hx⟩ => ⟨he, hC.trans hx⟩) ?_
        · go_simp
        simp only [Act.put, List.setIfInBounds_toArray, List.set_cons_zero, List.set_cons_succ]
        refine X_want rfl ?_
        refine X_val (v := ?_) (fun w1 hC => ?_) ?_
        rotate_left
        · go_simp
          (first | done | exact rfl)
        simp only [Act.put, List.setIfInBounds_toArray, List.set_cons_zero, List.set_cons_succ]
        refine X_want rfl ?_
        refine X_val (v := ?_) (fun w1 hC => ?_) ?_
        rotate_left
        · go_simp
          (first | done | exact rfl)
        simp only [Act.put, List.setIfInBounds_toArray, List.set_cons_zero, List.set_cons_succ]
        refine X_want rfl ?_
        refine X_val (v := ?_) (fun w1 hC => ?_) ?_
        rotate_left
        · go_simp
          (first | done | exact rfl)
        simp only [Act.put, List.setIfInBounds_toArray, List.set_cons_zero, List.set_cons_succ]
        refine X_want rfl ?_
        refine X_val (v := ?_) (fun w1 hC => ?_) ?_
        rotate_left
        · go_simp
          (first | done | exact rfl)
        simp only [Act.put, List.setIfInBounds_toArray, List.set_cons_zero, List.set_cons_succ]
        refine X_want rfl ?_
        refine X_val (v := ?_) (fun w1 hC => ?_) ?_
        rotate_left
        · go_simp
          (first | done | exact rfl)
        simp only [Act.put, List.setIfInBounds_toArray, List.set_cons_zero, List.set_cons_succ]
        refine X_skip rfl ?_
        simp only [Act.put, List.setIfInBounds_toArray, List.set_cons_zero, List.set_cons_succ]
        refine X_skip rfl ?_
        simp only [Act.put, List.setIfInBounds_toArray, List.set_cons_zero, List.set_cons_succ]
        refine X_skip rfl ?_
        simp only [Act.put, List.setIfInBounds_toArray, List.set_cons_zero, List.set_cons_succ]
        refine X_skip rfl ?_
        simp only [Act.put, List.setIfInBounds_toArray, List.set_cons_zero, List.set_cons_succ]
        refine X_skip rfl ?_
        simp only [Act.put, List.setIfInBounds_toArray, List.set_cons_zero, List.set_cons_succ]
        refine X_want rfl ?_
        refine X_val (v := ?_) (fun w1 hC => ?_) ?_
        rotate_left
        · go_simp
          (first | done | exact rfl)
        simp only [Act.put, List.setIfInBounds_toArray, List.set_cons_zero, List.set_cons_succ]
        refine X_want rfl ?_
        refine X_val (v := ?_) (fun w1 hC => ?_) ?_
        rotate_left
        · go_simp
          (first | done | exact rfl)
        simp only [Act.put, List.setIfInBounds_toArray, List.set_cons_zero, List.set_cons_succ]
        refine X_skip rfl ?_
        simp only [Act.put, List.setIfInBounds_toArray, List.set_cons_zero, List.set_cons_succ]
        refine X_skip rfl ?_
        simp only [Act.put, List.setIfInBounds_toArray, List.set_cons_zero, List.set_cons_succ]
        refine X_skip rfl ?_
        simp only [Act.put, List.setIfInBounds_toArray, List.set_cons_zero, List.set_cons_succ]
        refine X_skip rfl ?_
        simp only [Act.put, List.setIfInBounds_toArray, List.set_cons_zero, List.set_cons_succ]
        refine X_skip rfl ?_
        simp only [Act.put, List.setIfInBounds_toArray, List.set_cons_zero, List.set_cons_succ]
        refine X_want rfl ?_
        refine X_val (v := ?_) (fun w1 hC => ?_) ?_
        rotate_left
        · go_simp
          (first | done | exact rfl)
        simp only [Act.put, List.setIfInBounds_toArray, List.set_cons_zero, List.set_cons_succ]
        refine X_want rfl ?_
        refine X_val (v := ?_) (fun w1 hC => ?_) ?_
        rotate_left
        · go_simp
          (first | done | exact rfl)
        simp only [Act.put, List.setIfInBounds_toArray, List.set_cons_zero, List.set_cons_succ]
        refine wpQuiet_nil ?_
        intro w3 hx3
        go_wp2_with fail
        go_ret
        exact ⟨by first | rfl | simp, Hx.out.trans hx3⟩
      · cases q3
        · go_wp2_with fail
          refine wp_region_X (by kernel_rfl) (by kernel_rfl) (fun w3 => Ext w1 w3) ((Ext.refl _).drew) ?_
          refine X_want rfl ?_
          refine X_val (v := ?_) (fun w1 hC => ?_) ?_
          rotate_left
          · have q_d0 := hC.cell d0
            have q_d1 := hC.cell d1
            have q_d2 := hC.cell d2
            have q_d3 := hC.cell d3
            have q_d4 := hC.cell d4
            have q_d5 := hC.cell d5
            have q_d6 := hC.cell d6
            have q_d7 := hC.cell d7
            have q_d8 := hC.cell d8
            have q_d9 := hC.cell d9
            have q_f0 := hC.cell f0
            have q_f1 := hC.cell f1
            have q_f2 := hC.cell f2
            have q_f3 := hC.cell f3
            have q_f4 := hC.cell f4
            have q_f5 := hC.cell f5
            have q_f6 := hC.cell f6
            have q_f7 := hC.cell f7
            have q_f8 := hC.cell f8
            have q_f9 := hC.cell f9
            go_simp
            (first | done | exact rfl)
          simp only [Act.put, List.setIfInBounds_toArray, List.set_cons_zero, List.set_cons_succ]
          refine X_want rfl ?_
          refine X_call (v := .agg #[.int .u8 x.kind, .int .i64 x.low, .int .i64 x.high, .bool x.branded, .string x.brand, .string x.opaq, .int .i64 0]) (f := 78) (args := #[.agg #[.int .u8 x.kind, .int .i64 x.low, .int .i64 x.high, .bool x.branded, .string x.brand, .string x.opaq, .int .i64 x.super, .slice A1 x.parts.length c1, .slice A2 x.methods.length c2, .slice A3 x.overs.length c3]]) (fun w1 => ?_) (fun w1 hC => (Hpx.out w1).mono fun e w2 ⟨he, hx⟩ => ⟨he, hC.trans hx⟩) ?_
          · go_simp
          simp only [Act.put, List.setIfInBounds_toArray, List.set_cons_zero, List.set_cons_succ]
          refine X_want rfl ?_
          refine X_val (v := ?_) (fun w1 hC => ?_) ?_
          rotate_left
          · have q_d0 := hC.cell d0
            have q_d1 := hC.cell d1
            have q_d2 := hC.cell d2
            have q_d3 := hC.cell d3
            have q_d4 := hC.cell d4
            have q_d5 := hC.cell d5
            have q_d6 := hC.cell d6
            have q_d7 := hC.cell d7
            have q_d8 := hC.cell d8
            have q_d9 := hC.cell d9
            have q_f0 := hC.cell f0
            have q_f1 := hC.cell f1
            have q_f2 := hC.cell f2
            have q_f3 := hC.cell f3
            have q_f4 := hC.cell f4
            have q_f5 := hC.cell f5
            have q_f6 := hC.cell f6
            have q_f7 := hC.cell f7
            have q_f8 := hC.cell f8
            have q_f9 := hC.cell f9
            go_simp
            (first | done | exact rfl)
          simp only [Act.put, List.setIfInBounds_toArray, List.set_cons_zero, List.set_cons_succ]
          refine X_want rfl ?_
          refine X_call (v := .agg #[.int .u8 y.kind, .int .i64 y.low, .int .i64 y.high, .bool y.branded, .string y.brand, .string y.opaq, .int .i64 0]) (f := 78) (args := #[.agg #[.int .u8 y.kind, .int .i64 y.low, .int .i64 y.high, .bool y.branded, .string y.brand, .string y.opaq, .int .i64 y.super, .slice B1 y.parts.length p1, .slice B2 y.methods.length p2, .slice B3 y.overs.length p3]]) (fun w1 => ?_) (fun w1 hC => (Hpy.out w1).mono fun e w2 ⟨he, hx⟩ => ⟨he, hC.trans hx⟩) ?_
          · go_simp
          simp only [Act.put, List.setIfInBounds_toArray, List.set_cons_zero, List.set_cons_succ]
          refine X_want rfl ?_
          refine X_val (v := ?_) (fun w1 hC => ?_) ?_
          rotate_left
          · go_simp
            (first | done | exact rfl)
          simp only [Act.put, List.setIfInBounds_toArray, List.set_cons_zero, List.set_cons_succ]
          refine X_want rfl ?_
          refine X_val (v := ?_) (fun w1 hC => ?_) ?_
          rotate_left
          · go_simp
            (first | done | exact rfl)
          simp only [Act.put, List.setIfInBounds_toArray, List.set_cons_zero, List.set_cons_succ]
          refine X_want rfl ?_
          refine X_val (v := ?_) (fun w1 hC => ?_) ?_
          rotate_left
          · go_simp
            (first | done | exact rfl)
          simp only [Act.put, List.setIfInBounds_toArray, List.set_cons_zero, List.set_cons_succ]
          refine X_want rfl ?_
          refine X_val (v := ?_) (fun w1 hC => ?_) ?_
          rotate_left
          · go_simp
            (first | done | exact rfl)
          simp only [Act.put, List.setIfInBounds_toArray, List.set_cons_zero, List.set_cons_succ]
          refine X_want rfl ?_
          refine X_val (v := ?_) (fun w1 hC => ?_) ?_
          rotate_left
          · go_simp
            (first | done | exact rfl)
          simp only [Act.put, List.setIfInBounds_toArray, List.set_cons_zero, List.set_cons_succ]
          refine X_want rfl ?_
          refine X_val (v := ?_) (fun w1 hC => ?_) ?_
          rotate_left
          · go_simp
            (first | done | exact rfl)
          simp only [Act.put, List.setIfInBounds_toArray, List.set_cons_zero, List.set_cons_succ]
          refine X_want rfl ?_
          refine X_val (v := ?_) (fun w1 hC => ?_) ?_
          rotate_left
          · have q_d0 := hC.cell d0
            have q_d1 := hC.cell d1
            have q_d2 := hC.cell d2
            have q_d3 := hC.cell d3
            have q_d4 := hC.cell d4
            have q_d5 := hC.cell d5
            have q_d6 := hC.cell d6
            have q_d7 := hC.cell d7
            have q_d8 := hC.cell d8
            have q_d9 := hC.cell d9
            have q_f0 := hC.cell f0
            have q_f1 := hC.cell f1
            have q_f2 := hC.cell f2
            have q_f3 := hC.cell f3
            have q_f4 := hC.cell f4
            have q_f5 := hC.cell f5
            have q_f6 := hC.cell f6
            have q_f7 := hC.cell f7
            have q_f8 := hC.cell f8
            have q_f9 := hC.cell f9
            go_simp
            (first | done | exact rfl)
          simp only [Act.put, List.setIfInBounds_toArray, List.set_cons_zero, List.set_cons_succ]
          refine X_want rfl ?_
          refine X_val (v := ?_) (fun w1 hC => ?_) ?_
          rotate_left
          · go_simp
            (first | done | exact rfl)
          simp only [Act.put, List.setIfInBounds_toArray, List.set_cons_zero, List.set_cons_succ]
          refine X_want rfl ?_
          refine X_val (v := ?_) (fun w1 hC => ?_) ?_
          rotate_left
          · have q_d0 := hC.cell d0
            have q_d1 := hC.cell d1
            have q_d2 := hC.cell d2
            have q_d3 := hC.cell d3
            have q_d4 := hC.cell d4
            have q_d5 := hC.cell d5
            have q_d6 := hC.cell d6
            have q_d7 := hC.cell d7
            have q_d8 := hC.cell d8
            have q_d9 := hC.cell d9
            have q_f0 := hC.cell f0
            have q_f1 := hC.cell f1
            have q_f2 := hC.cell f2
            have q_f3 := hC.cell f3
            have q_f4 := hC.cell f4
            have q_f5 := hC.cell f5
            have q_f6 := hC.cell f6
            have q_f7 := hC.cell f7
            have q_f8 := hC.cell f8
            have q_f9 := hC.cell f9
            go_simp
            (first | done | exact rfl)
          simp only [Act.put, List.setIfInBounds_toArray, List.set_cons_zero, List.set_cons_succ]
          refine X_want rfl ?_
          refine X_call (v := .bool false) (f := 83) (args := #[.slice A2 x.methods.length c2, .slice B2 y.methods.length p2, .func (.func 106) #[] #[]]) (fun w1 => ?_) (fun w1 hC => (Hmeths.out w1 (Hx.out.trans hC)).mono fun e w2 ⟨he, hx⟩ => ⟨he, hC.trans hx⟩) ?_
          · go_simp
          simp only [Act.put, List.setIfInBounds_toArray, List.set_cons_zero, List.set_cons_succ]
          refine X_want rfl ?_
          refine X_val (v := ?_) (fun w1 hC => ?_) ?_
          rotate_left
          · go_simp
            (first | done | exact rfl)
          simp only [Act.put, List.setIfInBounds_toArray, List.set_cons_zero, List.set_cons_succ]
          refine X_want rfl ?_
          refine X_val (v := ?_) (fun w1 hC => ?_) ?_
          rotate_left
          · go_simp
            (first | done | exact rfl)
          simp only [Act.put, List.setIfInBounds_toArray, List.set_cons_zero, List.set_cons_succ]
          refine X_skip rfl ?_
          simp only [Act.put, List.setIfInBounds_toArray, List.set_cons_zero, List.set_cons_succ]
          refine X_skip rfl ?_
          simp only [Act.put, List.setIfInBounds_toArray, List.set_cons_zero, List.set_cons_succ]
          refine X_skip rfl ?_
          simp only [Act.put, List.setIfInBounds_toArray, List.set_cons_zero, List.set_cons_succ]
          refine X_skip rfl ?_
          simp only [Act.put, List.setIfInBounds_toArray, List.set_cons_zero, List.set_cons_succ]
          refine X_skip rfl ?_
          simp only [Act.put, List.setIfInBounds_toArray, List.set_cons_zero, List.set_cons_succ]
          refine X_want rfl ?_
          refine X_val (v := ?_) (fun w1 hC => ?_) ?_
          rotate_left
          · go_simp
            (first | done | exact rfl)
          simp only [Act.put, List.setIfInBounds_toArray, List.set_cons_zero, List.set_cons_succ]
          refine X_want rfl ?_
          refine X_val (v := ?_) (fun w1 hC => ?_) ?_
          rotate_left
          · go_simp
            (first | done | exact rfl)
          simp only [Act.put, List.setIfInBounds_toArray, List.set_cons_zero, List.set_cons_succ]
          refine wpQuiet_nil ?_
          intro w3 hx3
          go_wp2_with fail
          go_ret
          exact ⟨by first | rfl | simp, Hx.out.trans hx3⟩
        · go_wp2_with fail
          refine wp_region_X (by kernel_rfl) (by kernel_rfl) (fun w3 => Ext w1 w3) ((Ext.refl _).drew) ?_
          refine X_want rfl ?_
          refine X_val (v := ?_) (fun w1 hC => ?_) ?_
          rotate_left
          · have q_d0 := hC.cell d0
            have q_d1 := hC.cell d1
            have q_d2 := hC.cell d2
            have q_d3 := hC.cell d3
            have q_d4 := hC.cell d4
            have q_d5 := hC.cell d5
            have q_d6 := hC.cell d6
            have q_d7 := hC.cell d7
            have q_d8 := hC.cell d8
            have q_d9 := hC.cell d9
            have q_f0 := hC.cell f0
            have q_f1 := hC.cell f1
            have q_f2 := hC.cell f2
            have q_f3 := hC.cell f3
            have q_f4 := hC.cell f4
            have q_f5 := hC.cell f5
            have q_f6 := hC.cell f6
            have q_f7 := hC.cell f7
            have q_f8 := hC.cell f8
            have q_f9 := hC.cell f9
            go_simp
            (first | done | exact rfl)
          simp only [Act.put, List.setIfInBounds_toArray, List.set_cons_zero, List.set_cons_succ]
          refine X_want rfl ?_
          refine X_call (v := .agg #[.int .u8 x.kind, .int .i64 x.low, .int .i64 x.high, .bool x.branded, .string x.brand, .string x.opaq, .int .i64 0]) (f := 78) (args := #[.agg #[.int .u8 x.kind, .int .i64 x.low, .int .i64 x.high, .bool x.branded, .string x.brand, .string x.opaq, .int .i64 x.super, .slice A1 x.parts.length c1, .slice A2 x.methods.length c2, .slice A3 x.overs.length c3]]) (fun w1 => ?_) (fun w1 hC => (Hpx.out w1).mono fun e w2 ⟨he, hx⟩ => ⟨he, hC.trans hx⟩) ?_
          · go_simp
          simp only [Act.put, List.setIfInBounds_toArray, List.set_cons_zero, List.set_cons_succ]
          refine X_want rfl ?_
          refine X_val (v := ?_) (fun w1 hC => ?_) ?_
          rotate_left
          · have q_d0 := hC.cell d0
            have q_d1 := hC.cell d1
            have q_d2 := hC.cell d2
            have q_d3 := hC.cell d3
            have q_d4 := hC.cell d4
            have q_d5 := hC.cell d5
            have q_d6 := hC.cell d6
            have q_d7 := hC.cell d7
            have q_d8 := hC.cell d8
            have q_d9 := hC.cell d9
            have q_f0 := hC.cell f0
            have q_f1 := hC.cell f1
            have q_f2 := hC.cell f2
            have q_f3 := hC.cell f3
            have q_f4 := hC.cell f4
            have q_f5 := hC.cell f5
            have q_f6 := hC.cell f6
            have q_f7 := hC.cell f7
            have q_f8 := hC.cell f8
            have q_f9 := hC.cell f9
            go_simp
            (first | done | exact rfl)
          simp only [Act.put, List.setIfInBounds_toArray, List.set_cons_zero, List.set_cons_succ]
          refine X_want rfl ?_
          refine X_call (v := .agg #[.int .u8 y.kind, .int .i64 y.low, .int .i64 y.high, .bool y.branded, .string y.brand, .string y.opaq, .int .i64 0]) (f := 78) (args := #[.agg #[.int .u8 y.kind, .int .i64 y.low, .int .i64 y.high, .bool y.branded, .string y.brand, .string y.opaq, .int .i64 y.super, .slice B1 y.parts.length p1, .slice B2 y.methods.length p2, .slice B3 y.overs.length p3]]) (fun w1 => ?_) (fun w1 hC => (Hpy.out w1).mono fun e w2 ⟨he, hx⟩ => ⟨he, hC.trans hx⟩) ?_
          · go_simp
          simp only [Act.put, List.setIfInBounds_toArray, List.set_cons_zero, List.set_cons_succ]
          refine X_want rfl ?_
          refine X_val (v := ?_) (fun w1 hC => ?_) ?_
          rotate_left
          · go_simp
            (first | done | exact rfl)
          simp only [Act.put, List.setIfInBounds_toArray, List.set_cons_zero, List.set_cons_succ]
          refine X_want rfl ?_
          refine X_val (v := ?_) (fun w1 hC => ?_) ?_
          rotate_left
          · go_simp
            (first | done | exact rfl)
          simp only [Act.put, List.setIfInBounds_toArray, List.set_cons_zero, List.set_cons_succ]
          refine X_want rfl ?_
          refine X_val (v := ?_) (fun w1 hC => ?_) ?_
          rotate_left
          · go_simp
            (first | done | exact rfl)
          simp only [Act.put, List.setIfInBounds_toArray, List.set_cons_zero, List.set_cons_succ]
          refine X_want rfl ?_
          refine X_val (v := ?_) (fun w1 hC => ?_) ?_
          rotate_left
          · go_simp
            (first | done | exact rfl)
          simp only [Act.put, List.setIfInBounds_toArray, List.set_cons_zero, List.set_cons_succ]
          refine X_want rfl ?_
          refine X_val (v := ?_) (fun w1 hC => ?_) ?_
          rotate_left
          · go_simp
            (first | done | exact rfl)
          simp only [Act.put, List.setIfInBounds_toArray, List.set_cons_zero, List.set_cons_succ]
          refine X_want rfl ?_
          refine X_val (v := ?_) (fun w1 hC => ?_) ?_
          rotate_left
          · go_simp
            (first | done | exact rfl)
          simp only [Act.put, List.setIfInBounds_toArray, List.set_cons_zero, List.set_cons_succ]
          refine X_want rfl ?_
          refine X_val (v := ?_) (fun w1 hC => ?_) ?_
          rotate_left
          · have q_d0 := hC.cell d0
            have q_d1 := hC.cell d1
            have q_d2 := hC.cell d2
            have q_d3 := hC.cell d3
            have q_d4 := hC.cell d4
            have q_d5 := hC.cell d5
            have q_d6 := hC.cell d6
            have q_d7 := hC.cell d7
            have q_d8 := hC.cell d8
            have q_d9 := hC.cell d9
            have q_f0 := hC.cell f0
            have q_f1 := hC.cell f1
            have q_f2 := hC.cell f2
            have q_f3 := hC.cell f3
            have q_f4 := hC.cell f4
            have q_f5 := hC.cell f5
            have q_f6 := hC.cell f6
            have q_f7 := hC.cell f7
            have q_f8 := hC.cell f8
            have q_f9 := hC.cell f9
            go_simp
            (first | done | exact rfl)
          simp only [Act.put, List.setIfInBounds_toArray, List.set_cons_zero, List.set_cons_succ]
          refine X_want rfl ?_
          refine X_val (v := ?_) (fun w1 hC => ?_) ?_
          rotate_left
          · go_simp
            (first | done | exact rfl)
          simp only [Act.put, List.setIfInBounds_toArray, List.set_cons_zero, List.set_cons_succ]
          refine X_want rfl ?_
          refine X_val (v := ?_) (fun w1 hC => ?_) ?_
          rotate_left
          · have q_d0 := hC.cell d0
            have q_d1 := hC.cell d1
            have q_d2 := hC.cell d2
            have q_d3 := hC.cell d3
            have q_d4 := hC.cell d4
            have q_d5 := hC.cell d5
            have q_d6 := hC.cell d6
            have q_d7 := hC.cell d7
            have q_d8 := hC.cell d8
            have q_d9 := hC.cell d9
            have q_f0 := hC.cell f0
            have q_f1 := hC.cell f1
            have q_f2 := hC.cell f2
            have q_f3 := hC.cell f3
            have q_f4 := hC.cell f4
            have q_f5 := hC.cell f5
            have q_f6 := hC.cell f6
            have q_f7 := hC.cell f7
            have q_f8 := hC.cell f8
            have q_f9 := hC.cell f9
            go_simp
            (first | done | exact rfl)
          simp only [Act.put, List.setIfInBounds_toArray, List.set_cons_zero, List.set_cons_succ]
          refine X_want rfl ?_
          refine X_call (v := .bool true) (f := 83) (args := #[.slice A2 x.methods.length c2, .slice B2 y.methods.length p2, .func (.func 106) #[] #[]]) (fun w1 => ?_) (fun w1 hC => (Hmeths.out w1 (Hx.out.trans hC)).mono fun e w2 ⟨he, hx⟩ => ⟨he, hC.trans hx⟩) ?_
          · go_simp
          simp only [Act.put, List.setIfInBounds_toArray, List.set_cons_zero, List.set_cons_succ]
          refine X_want rfl ?_
          refine X_val (v := ?_) (fun w1 hC => ?_) ?_
          rotate_left
          · go_simp
            (first | done | exact rfl)
          simp only [Act.put, List.setIfInBounds_toArray, List.set_cons_zero, List.set_cons_succ]
          refine X_want rfl ?_
          refine X_val (v := ?_) (fun w1 hC => ?_) ?_
          rotate_left
          · go_simp
            (first | done | exact rfl)
          simp only [Act.put, List.setIfInBounds_toArray, List.set_cons_zero, List.set_cons_succ]
          refine X_want rfl ?_
          refine X_val (v := ?_) (fun w1 hC => ?_) ?_
          rotate_left
          · go_simp
            (first | done | exact rfl)
          simp only [Act.put, List.setIfInBounds_toArray, List.set_cons_zero, List.set_cons_succ]
          refine X_want rfl ?_
          refine X_val (v := ?_) (fun w1 hC => ?_) ?_
          rotate_left
          · have q_d0 := hC.cell d0
            have q_d1 := hC.cell d1
            have q_d2 := hC.cell d2
            have q_d3 := hC.cell d3
            have q_d4 := hC.cell d4
            have q_d5 := hC.cell d5
            have q_d6 := hC.cell d6
            have q_d7 := hC.cell d7
            have q_d8 := hC.cell d8
            have q_d9 := hC.cell d9
            have q_f0 := hC.cell f0
            have q_f1 := hC.cell f1
            have q_f2 := hC.cell f2
            have q_f3 := hC.cell f3
            have q_f4 := hC.cell f4
            have q_f5 := hC.cell f5
            have q_f6 := hC.cell f6
            have q_f7 := hC.cell f7
            have q_f8 := hC.cell f8
            have q_f9 := hC.cell f9
            go_simp
            (first | done | exact rfl)
          simp only [Act.put, List.setIfInBounds_toArray, List.set_cons_zero, List.set_cons_succ]
          refine X_want rfl ?_
          refine X_val (v := ?_) (fun w1 hC => ?_) ?_
          rotate_left
          · go_simp
            (first | done | exact rfl)
          simp only [Act.put, List.setIfInBounds_toArray, List.set_cons_zero, List.set_cons_succ]
          refine X_want rfl ?_
          refine X_val (v := ?_) (fun w1 hC => ?_) ?_
          rotate_left
          · have q_d0 := hC.cell d0
            have q_d1 := hC.cell d1
            have q_d2 := hC.cell d2
            have q_d3 := hC.cell d3
            have q_d4 := hC.cell d4
            have q_d5 := hC.cell d5
            have q_d6 := hC.cell d6
            have q_d7 := hC.cell d7
            have q_d8 := hC.cell d8
            have q_d9 := hC.cell d9
            have q_f0 := hC.cell f0
            have q_f1 := hC.cell f1
            have q_f2 := hC.cell f2
            have q_f3 := hC.cell f3
            have q_f4 := hC.cell f4
            have q_f5 := hC.cell f5
            have q_f6 := hC.cell f6
            have q_f7 := hC.cell f7
            have q_f8 := hC.cell f8
            have q_f9 := hC.cell f9
            go_simp
            (first | done | exact rfl)
          simp only [Act.put, List.setIfInBounds_toArray, List.set_cons_zero, List.set_cons_succ]
          refine X_want rfl ?_
          refine X_call (v := .bool q4) (f := 84) (args := #[.slice A3 x.overs.length c3, .slice B3 y.overs.length p3]) (fun w1 => ?_) (fun w1 hC => (Hovers.out w1 (Hx.out.trans hC)).mono fun e w2 ⟨he, hx⟩ => ⟨he, hC.trans hx⟩) ?_
          · go_simp
          simp only [Act.put, List.setIfInBounds_toArray, List.set_cons_zero, List.set_cons_succ]
          refine X_want rfl ?_
          refine X_val (v := ?_) (fun w1 hC => ?_) ?_
          rotate_left
          · go_simp
            (first | done | exact rfl)
          simp only [Act.put, List.setIfInBounds_toArray, List.set_cons_zero, List.set_cons_succ]
          refine X_want rfl ?_
          refine X_val (v := ?_) (fun w1 hC => ?_) ?_
          rotate_left
          · go_simp
            (first | done | exact rfl)
          simp only [Act.put, List.setIfInBounds_toArray, List.set_cons_zero, List.set_cons_succ]
          refine wpQuiet_nil ?_
          intro w3 hx3
          go_wp2_with fail
          go_ret
          exact ⟨by first | rfl | simp, Hx.out.trans hx3⟩
end Go.Proofs.YtldnjnnhfeobdaaGreatDoor
/- Words and small contracts for classes: rows of ints that are written, the function values that look into them. Conditions: lengths below 2^20. -/
namespace Go.Proofs.YtldnjnnhfeobdaaGreatDoor
set_option linter.all false
set_option linter.unusedSimpArgs false
set_option linter.unusedVariables false
open Go.RowKit Go.Shelf

theorem agree_any (w : World) (gv : Value) (g : Graph) (i j : Nat) (hg : Sl tyE w gv g) (hT : Tidy g) (hi : i < g.length) (hj : j < g.length) :
    Calls Tryz.prog 55 #[.agg #[gv], .int .i64 i, .int .i64 j] w (Ret w (.bool (agN g i j))) := by
  obtain ⟨A, cap, rfl, hs⟩ := hg.ty
  obtain ⟨b, off, xp, xm, xo, hA, hax, hox⟩ := hs i hi
  obtain ⟨b', off', yp, ym, yo, hA', hay, hoy⟩ := hs j hj
  rw [hA] at hA'
  simp only [Option.some.injEq, Addr.mk.injEq, and_true] at hA'
  obtain ⟨rfl, rfl⟩ := hA'
  unfold agN
  rw [getT_lt hi, getT_lt hj]
  exact agree_types w A cap g.length i j _ _ _ _ _ _ _ _ hi hj hT.len (hT.ty _ (List.getElem_mem hi)).1 (hT.ty _ (List.getElem_mem hj)).1 hox hoy ⟨b, off, hA, hax, hay⟩

/-- block b is a row of ints -/
def IntRow (w : World) (b : Nat) (xs : List Nat) : Prop := w.heap[b]? = some (.cells (xs.map fun (n : Nat) => Value.int .i64 (n : Int)).toArray 3 (0, 0))
section
variable {w w' : World} {b : Nat} {xs : List Nat}
theorem IntRow.ext (h : IntRow w b xs) (hx : Ext w w') : IntRow w' b xs := hx.heap h
theorem IntRow.lt (h : IntRow w b xs) : b < w.heap.size := (Array.getElem?_eq_some_iff.1 h).1
theorem IntRow.cell (h : IntRow w b xs) (i : Nat) (hi : i < xs.length) : w.cell? ⟨b, i, none⟩ = some (.int .i64 (xs.getD i 0 : Nat)) := by
  refine heap_cell h i _ ?_
  simp [List.getD_eq_getElem?_getD, List.getElem?_eq_getElem hi]
theorem IntRow.frozen (h : IntRow w b xs) (i : Nat) : w.frozen? ⟨b, i, none⟩ = false := heap_frozen h i
theorem IntRow.set (h : IntRow w b xs) (i v : Nat) : IntRow (w.setCell ⟨b, i, none⟩ (.int .i64 (v : Int))) b (xs.set i v) := by
  have := heap_set h i (.int .i64 (v : Int))
  unfold IntRow
  rw [this]
  simp [List.map_set]
theorem IntRow.other (h : IntRow w b xs) {b' i : Nat} (v : Value) (hne : b ≠ b') : IntRow (w.setCell ⟨b', i, none⟩ v) b xs := by
  unfold IntRow
  rw [Below.heap_setCell _ _ _ _ hne]
  exact h
theorem IntRow.sl (h : IntRow w b xs) (cap : Nat) (hcap : xs.length ≤ cap) : Sl intE w (.slice (some ⟨b, 0, none⟩) xs.length cap) (xs.map fun (n : Nat) => (n : Int)) := by
  refine ⟨_, cap, by rw [List.length_map], fun i x hi => ⟨b, 0, [.int .i64 x], rfl, ⟨trivial, by rw [List.length_map]; exact hcap⟩, rfl, fun j u hj => ?_⟩⟩
  have hlt : i < xs.length := by simpa using (List.getElem?_eq_some_iff.1 hi).1
  cases j with
  | succ j => simp at hj
  | zero =>
    simp at hj
    subst hj
    have := h.cell i hlt
    simp only [intE, Nat.mul_one, Nat.zero_add, Nat.add_zero]
    rw [this]
    simp [List.getD_eq_getElem?_getD, List.getElem?_eq_getElem hlt] at hi ⊢
    exact hi
end
theorem Boxed.ext {w w' : World} {b : Nat} {t : TypeId} {v : Value} (h : Boxed w b t v) (hx : Ext w w') : Boxed w' b t v := hx.heap h
theorem Boxed.other' {w : World} {b b' i : Nat} {t : TypeId} {u : Value} (h : Boxed w b t u) (v : Value) (hne : b ≠ b') : Boxed (w.setCell ⟨b', i, none⟩ v) b t u := by
  unfold Boxed
  rw [Below.heap_setCell _ _ _ _ hne]
  exact h
theorem set_next (L : List Nat) (i n v : Nat) (hL : L.length = i) (hi : i < n) : (L ++ List.replicate (n - i) 0).set i v = L ++ [v] ++ List.replicate (n - (i + 1)) 0 := by
  subst hL
  rw [List.set_append_right _ _ (Nat.le_refl _), Nat.sub_self, show n - L.length = (n - (L.length + 1)) + 1 by omega, List.replicate_succ]
  simp
theorem getD_pre (L M : List Nat) (k : Nat) (hk : k < L.length) : (L ++ M).getD k 0 = L.getD k 0 := by
  simp only [List.getD_eq_getElem?_getD]; rw [List.getElem?_append_left hk]
theorem getD_zero (L : List Nat) (m k : Nat) (hk : L.length ≤ k) : (L ++ List.replicate m 0).getD k 0 = 0 := by
  simp only [List.getD_eq_getElem?_getD]
  rw [List.getElem?_append_right hk, List.getElem?_replicate]
  split <;> rfl

/-! ### the function values of classes -/
set_option maxRecDepth 100000 in
theorem classes1 (w : World) (bx Bc n i : Nat) (cs : List Nat) (hb : Boxed w bx 24 (.slice (some ⟨Bc, 0, none⟩) n n)) (hr : IntRow w Bc cs) (hl : cs.length = n) (hi : i < n) (hn : n ≤ 1048576) :
    Calls Tryz.prog 109 #[.int .i64 i, .pointer (some ⟨bx, 0, none⟩)] w (Ret w (.int .i64 (cs.getD i 0 : Nat))) := by
  have c0 := hb.cell
  have c1 := hr.cell i (by omega)
  have l0 := hb.lt
  have l1 := hr.lt
  have h0 : (0 : Int) ≤ (i : Int) := by omega
  have h1 : (i : Int) < (n : Int) := by omega
  clear hb hr hl
  go_enter Tryz.func109, Tryz.ntmps109
  go_wp2_with fail
  go_ret
  exact ⟨rfl, Ext.refl _⟩
set_option maxRecDepth 100000 in
theorem classes2 (w : World) (bx Bc n i : Nat) (cs : List Nat) (hb : Boxed w bx 24 (.slice (some ⟨Bc, 0, none⟩) n n)) (hr : IntRow w Bc cs) (hl : cs.length = n) (hi : i < n) (hn : n ≤ 1048576) :
    Calls Tryz.prog 110 #[.int .i64 i, .pointer (some ⟨bx, 0, none⟩)] w (Ret w (.int .i64 (cs.getD i 0 : Nat))) := by
  have c0 := hb.cell
  have c1 := hr.cell i (by omega)
  have l0 := hb.lt
  have l1 := hr.lt
  have h0 : (0 : Int) ≤ (i : Int) := by omega
  have h1 : (i : Int) < (n : Int) := by omega
  clear hb hr hl
  go_enter Tryz.func110, Tryz.ntmps110
  go_wp2_with fail
  go_ret
  exact ⟨rfl, Ext.refl _⟩
def lookN (cs : List Nat) (x : Int) : Int := (cs.getD x.toNat 0 : Nat)
theorem res_int {w : World} {s : Int} {f : Nat} {args : Array Value} (h : Calls Tryz.prog f args w (Ret w (.int .i64 s))) : Calls Tryz.prog f args w (RetP w (Res intE w s)) :=
  h.mono fun e w' ⟨he, hx⟩ => ⟨_, he, ⟨[.int .i64 s], rfl, rfl⟩, hx⟩
theorem map109 (w : World) (bx Bc n : Nat) (cs : List Nat) (xs : List Int) (hb : Boxed w bx 24 (.slice (some ⟨Bc, 0, none⟩) n n)) (hr : IntRow w Bc cs) (hl : cs.length = n) (hn : n ≤ 1048576) (hx : ∀ x ∈ xs, 0 ≤ x ∧ x < n) :
    MapP intE intE w 109 #[.pointer (some ⟨bx, 0, none⟩)] xs (lookN cs) :=
  ⟨enters_of Tryz.func109 (by kernel_rfl) rfl, by
    rintro x hxm w' A hxt ⟨_, rfl, rfl⟩
    obtain ⟨h0, h1⟩ := hx x hxm
    obtain ⟨i, rfl⟩ := Int.eq_ofNat_of_zero_le h0
    exact res_int (classes1 w' bx Bc n i cs (Boxed.ext hb hxt) (hr.ext hxt) hl (by omega) hn)⟩
theorem map110 (w : World) (bx Bc n : Nat) (cs : List Nat) (xs : List Int) (hb : Boxed w bx 24 (.slice (some ⟨Bc, 0, none⟩) n n)) (hr : IntRow w Bc cs) (hl : cs.length = n) (hn : n ≤ 1048576) (hx : ∀ x ∈ xs, 0 ≤ x ∧ x < n) :
    MapP intE intE w 110 #[.pointer (some ⟨bx, 0, none⟩)] xs (lookN cs) :=
  ⟨enters_of Tryz.func110 (by kernel_rfl) rfl, by
    rintro x hxm w' A hxt ⟨_, rfl, rfl⟩
    obtain ⟨h0, h1⟩ := hx x hxm
    obtain ⟨i, rfl⟩ := Int.eq_ofNat_of_zero_le h0
    exact res_int (classes2 w' bx Bc n i cs (Boxed.ext hb hxt) (hr.ext hxt) hl (by omega) hn)⟩

/-- what classes keeps while it runs -/
structure CSt (w : World) (b0 bx Bc : Nat) (A : Option Addr) (cap n : Nat) (cs : List Nat) (wr : World) : Prop where
  ext : Ext w wr
  gbox : Boxed wr b0 77 (.slice A n cap)
  cbox : Boxed wr bx 24 (.slice (some ⟨Bc, 0, none⟩) n n)
  row : IntRow wr Bc cs
  len : cs.length = n
  nb : w.heap.size ≤ Bc ∧ w.heap.size ≤ bx ∧ b0 ≠ Bc ∧ bx ≠ Bc ∧ b0 ≠ bx
section
variable {w wr : World} {b0 bx Bc : Nat} {A : Option Addr} {cap n : Nat} {cs : List Nat}
theorem CSt.later {wr' : World} (h : CSt w b0 bx Bc A cap n cs wr) (hx : Ext wr wr') : CSt w b0 bx Bc A cap n cs wr' :=
  ⟨h.ext.trans hx, Boxed.ext h.gbox hx, Boxed.ext h.cbox hx, h.row.ext hx, h.len, h.nb⟩
theorem CSt.set (h : CSt w b0 bx Bc A cap n cs wr) (i v : Nat) : CSt w b0 bx Bc A cap n (cs.set i v) (wr.setCell ⟨Bc, i, none⟩ (.int .i64 (v : Int))) :=
  ⟨h.ext.setCell h.nb.1 _, Boxed.other' h.gbox _ h.nb.2.2.1, Boxed.other' h.cbox _ h.nb.2.2.2.1, h.row.set i v, by simp [h.len], h.nb⟩
theorem CSt.put (h : CSt w b0 bx Bc A cap n cs wr) (Bn i : Nat) (v : Value) (h1 : w.heap.size ≤ Bn) (h2 : b0 ≠ Bn) (h3 : bx ≠ Bn) (h4 : Bc ≠ Bn) : CSt w b0 bx Bc A cap n cs (wr.setCell ⟨Bn, i, none⟩ v) :=
  ⟨h.ext.setCell h1 _, Boxed.other' h.gbox _ h2, Boxed.other' h.cbox _ h3, h.row.other _ h4, h.len, h.nb⟩
end
end Go.Proofs.YtldnjnnhfeobdaaGreatDoor
/- Contract: reach: what ways lead to. Conditions: a right graph; a quiet function value for classes. -/
namespace Go.Proofs.YtldnjnnhfeobdaaGreatDoor
set_option linter.all false
set_option linter.unusedSimpArgs false
set_option linter.unusedVariables false
open Go.RowKit Go.Shelf
attribute [local go_sem] Oper.semAt_some

def i64V (l : List Nat) : List Value := l.map fun (n : Nat) => Value.int .i64 (n : Int)
theorem i64V_snoc (l : List Nat) (n : Nat) : i64V (l ++ [n]) = i64V l ++ [.int .i64 (n : Int)] := by simp [i64V]
/-- the classes that have been seen, as a map -/
def clsF (s : List Nat) : Int → Option Value := fun q => if q ∈ s.map (fun (n : Nat) => (n : Int)) then some (.bool true) else none
theorem cast_mem {c : Nat} {s : List Nat} : (c : Int) ∈ s.map (fun (n : Nat) => (n : Int)) ↔ c ∈ s :=
  ⟨fun h => by obtain ⟨q, hq, e⟩ := List.mem_map.1 h; have : q = c := by omega
               rw [← this]; exact hq, fun h => List.mem_map_of_mem h⟩
theorem clsF_getD (s : List Nat) (c : Nat) : (clsF s (c : Int)).getD (.bool false) = .bool (decide (c ∈ s)) := by
  unfold clsF
  by_cases h : c ∈ s
  · rw [if_pos (cast_mem.2 h)]; simp [h]
  · rw [if_neg (fun h' => h (cast_mem.1 h'))]; simp [h]
theorem clsF_put (s : List Nat) (c : Nat) : put (clsF s) (c : Int) (.bool true) = clsF (s ++ [c]) := by
  funext q
  unfold put clsF
  by_cases h : q = (c : Int)
  · simp [h]
  · rw [if_neg h]
    have : q ∈ (s ++ [c]).map (fun (n : Nat) => (n : Int)) ↔ q ∈ s.map (fun (n : Nat) => (n : Int)) := by
      rw [List.map_append, List.mem_append, List.map_cons, List.map_nil, List.mem_singleton]
      exact ⟨fun h' => h'.elim id (fun e => absurd e h), .inl⟩
    by_cases h2 : q ∈ s.map (fun (n : Nat) => (n : Int))
    · rw [if_pos h2, if_pos (this.2 h2)]
    · rw [if_neg h2, if_neg (fun h' => h2 (this.1 h'))]
theorem clsF_nil : clsF [] = fun _ => none := by funext q; simp [clsF]

theorem zeroBool' (w : World) : (zeroValue 4).run Tryz.prog w = .ok (.bool false) w := by kernel_rfl
theorem addN_len (cls : Nat → Nat) : ∀ rs out, (addN cls out rs).length ≤ out.length + rs.length
  | [], out => by simp [addN]
  | r :: rs, out => by
    unfold addN
    split
    · have := addN_len cls rs out; simp; omega
    · have := addN_len cls rs (out ++ [r]); simp at this ⊢; omega
/-! ### marks of loops that are over -/
def marksOf (Ds : List Nat) : List Deferred := Ds.map fun D => { target := .collected D, args := #[] }
theorem leaves_marks {n : Nat} {fn : Func} {tmps : Array Value} {R : Ending → World → Prop} {I : World → Prop} {p : Nat → Prop} (hI : ∀ w D, p D → I w → w.heap[D]? = some (.deferred (some [])) → I (w.putObj D (.deferred none)))
    (hR : ∀ w, I w → LeavesInM Fence.wide n Tryz.prog fn tmps R [] .returning w) : ∀ Ds w, I w → Ds.Nodup → (∀ D ∈ Ds, p D ∧ w.heap[D]? = some (.deferred (some []))) → LeavesInM Fence.wide n Tryz.prog fn tmps R (marksOf Ds) .returning w
  | [], w, h, _, _ => hR w h
  | D :: Ds, w, h, hn, hd => by
    obtain ⟨hp, hD⟩ := hd D (by simp)
    have hn' := List.nodup_cons.1 hn
    refine ⟨by simp, .inl ⟨D, _, rfl, run_takeDeferred hD, leaves_marks hI hR Ds _ (hI w D hp h hD) hn'.2 fun D' h' => ⟨(hd D' (by simp [h'])).1, ?_⟩⟩⟩
    have hne : D' ≠ D := fun e => hn'.1 (e ▸ h')
    exact (World.putObj_heap_other hne).trans (hd D' (by simp [h'])).2

/-! ### what holds while it is looked for -/
structure RSt (w : World) (b3 b5 b7 b8 mb : Nat) (gv fv : Value) (seen out : List Nat) (v : Value) (W : World) : Prop where
  ext : Ext w W
  gbox : Boxed W b3 77 gv
  fbox : Boxed W b5 103 fv
  obox : Boxed W b7 24 v
  row : W.ownsRow w.heap.size 3 1 v out.length (i64V out)
  mbox : Boxed W b8 164 (.map (some mb))
  map : MapF (intK Tryz.underlying3) W mb (clsF seen)
  nb : w.heap.size ≤ mb ∧ w.heap.size ≤ b7 ∧ b7 ≠ b3 ∧ b7 ≠ b5 ∧ b7 ≠ b8 ∧ w.heap.size ≤ b3
section
variable {w W W' : World} {b3 b5 b7 b8 mb : Nat} {gv fv v : Value} {seen out : List Nat}
theorem RSt.later (h : RSt w b3 b5 b7 b8 mb gv fv seen out v W) (hx : Ext W W') : RSt w b3 b5 b7 b8 mb gv fv seen out v W' :=
  ⟨h.ext.trans hx, Boxed.ext h.gbox hx, Boxed.ext h.fbox hx, Boxed.ext h.obox hx, h.row.kept (row := none) ⟨Below.os hx, Below.tape hx, Below.output hx, Below.size hx, fun k hk _ => Below.block hx k hk⟩ (by cases v.ownBlock <;> simp), Boxed.ext h.mbox hx, h.map.ext hx, h.nb⟩
theorem Boxed.ne_map {t : TypeId} {u : Value} {f : Int → Option Value} (h : Boxed W b3 t u) (hm : MapF (intK Tryz.underlying3) W mb f) : b3 ≠ mb := by
  rintro rfl
  obtain ⟨es, c, h2, _⟩ := hm
  rw [show W.heap[b3]? = _ from h] at h2
  injection h2 with h2
  cases h2
theorem RSt.mark (h : RSt w b3 b5 b7 b8 mb gv fv seen out v W) {c : Nat} (hm : MapF (intK Tryz.underlying3) W' mb (put (clsF seen) (c : Int) (.bool true))) (hg : W.grownBy W' (some mb)) : RSt w b3 b5 b7 b8 mb gv fv (seen ++ [c]) out v W' := by
  have hk : ∀ b t u, Boxed W b t u → Boxed W' b t u := fun b t u hb => (hg.block b (Array.getElem?_eq_some_iff.1 (show W.heap[b]? = _ from hb)).1 (fun e => Boxed.ne_map hb h.map (by injection e))).trans hb
  refine ⟨Below.grown h.ext hg h.ext.size (fun k hk => by cases hk; exact h.nb.1), hk _ _ _ h.gbox, hk _ _ _ h.fbox, hk _ _ _ h.obox, h.row.kept hg ?_, hk _ _ _ h.mbox, by rw [← clsF_put]; exact hm, h.nb⟩
  rcases h.row.2 with ⟨rfl, _⟩ | ⟨g, cap, cur, rfl, _, hgb, _⟩
  · exact .inl rfl
  · refine .inr fun e => ?_
    obtain ⟨es, c, h2, _⟩ := h.map
    have e' : g = mb := by simpa [Value.ownBlock] using e
    rw [e'] at hgb
    rw [hgb] at h2
    injection h2 with h2
    cases h2
end
theorem RSt.own {w W W' : World} {b3 b5 b7 b8 mb B : Nat} {gv fv v : Value} {seen out : List Nat} (h : RSt w b3 b5 b7 b8 mb gv fv seen out v W) (hmb : mb < B) (hB : w.heap.size ≤ B) {row : Option Nat} (hg : W.grownBy W' row)
    (hr : ∀ r, row = some r → B ≤ r ∧ ∃ o : Obj, W.heap[r]? = some o ∧ o.isCells = false) : RSt w b3 b5 b7 b8 mb gv fv seen out v W' := by
  have hk : ∀ (b : Nat) (c : Array Value) (t : TypeId) (fr : Nat × Nat), W.heap[b]? = some (Obj.cells c t fr) → W'.heap[b]? = some (Obj.cells c t fr) := fun b c t fr hb => (hg.block b (Array.getElem?_eq_some_iff.1 hb).1 (fun e => by
    obtain ⟨_, o, ho, hc⟩ := hr b e.symm
    rw [hb] at ho; cases ho; cases hc)).trans hb
  refine ⟨Below.grown h.ext hg h.ext.size (fun k hk => by have := (hr k hk).1; omega), hk _ _ _ _ h.gbox, hk _ _ _ _ h.fbox, hk _ _ _ _ h.obox, ⟨h.row.1, ?_⟩, hk _ _ _ _ h.mbox, h.map.kept (hg.block mb h.map.lt (fun e => by have := (hr mb e.symm).1; omega)), h.nb⟩
  rcases h.row.2 with hn | ⟨g, cap, cur, e, h1, h2, h3⟩
  · exact .inl hn
  · exact .inr ⟨g, cap, cur, e, h1, hk _ _ _ _ h2, h3⟩
/-- one more behind what has been found -/
theorem RSt.push {w W w1 : World} {b3 b5 b7 b8 mb : Nat} {gv fv v v' : Value} {seen out : List Nat} {r : Nat} {tmp : Obj} (h : RSt w b3 b5 b7 b8 mb gv fv seen out v W)
    (hown' : w1.ownsRow w.heap.size 3 1 v' (out.length + 1) (i64V out ++ [.int .i64 (r : Int)])) (hgrow : (W.alloc tmp).grownBy w1 v.ownBlock) : RSt w b3 b5 b7 b8 mb gv fv seen (out ++ [r]) v' (w1.setCell ⟨b7, 0, none⟩ v') ∧ KpR w.heap.size W (w1.setCell ⟨b7, 0, none⟩ v') := by
  have hsz := h.ext.size
  obtain ⟨hv1, hv2, hr2, hk2, hb2⟩ := h.obox.appended (by decide) h.row hsz h.nb.2.1 hown' hgrow
  have hkp := kp_appended h.obox h.row hsz h.nb.2.1 hown' hgrow
  have hk : ∀ b t u, t ≠ 3 → b ≠ b7 → Boxed W b t u → Boxed (w1.setCell ⟨b7, 0, none⟩ v') b t u := fun b t u ht hne hb => by
    have hlt : b < W.heap.size := (Array.getElem?_eq_some_iff.1 (show W.heap[b]? = _ from hb)).1
    refine (Below.heap_setCell _ _ _ _ hne).trans ((hgrow.block b (by simp; omega) ?_).trans ((Below.heap_alloc _ _ _ hlt).trans hb))
    rcases h.row.2 with ⟨rfl, _⟩ | ⟨g, cap, cur, rfl, _, hgb, _⟩
    · simp [Value.ownBlock]
    · intro e
      obtain rfl : b = g := by simpa [Value.ownBlock] using e
      have := hgb.symm.trans (show W.heap[b]? = _ from hb)
      simp at this
      exact ht this.2.symm
  refine ⟨⟨Below.trans h.ext hb2, hk _ _ _ (by decide) (fun e => h.nb.2.2.1 e.symm) h.gbox, hk _ _ _ (by decide) (fun e => h.nb.2.2.2.1 e.symm) h.fbox, hv2, by rw [i64V_snoc, List.length_append]; exact hr2, hk _ _ _ (by decide) (fun e => h.nb.2.2.2.2.1 e.symm) h.mbox, ?_, h.nb⟩, hkp⟩
  obtain ⟨es, c, h2, h3⟩ := h.map
  exact ⟨es, c, hk2.same _ _ h2 rfl, h3⟩
/-- a function value that tells the class of a number, and does nothing else -/
structure SameP (w : World) (f : Nat) (cb : Array Value) (cls : Nat → Nat) (n : Nat) : Prop where
  ent : Enters Tryz.prog f
  run : ∀ i, i < n → ∀ w', Ext w w' → Calls Tryz.prog f (#[.int .i64 (i : Int)] ++ cb) w' (fun e w'' => e = .returned (.int .i64 (cls i : Nat)) ∧ w'' = w')
theorem SameP.later {w w1 : World} {f : Nat} {cb : Array Value} {cls : Nat → Nat} {n : Nat} (h : SameP w f cb cls n) (hx : Ext w w1) : SameP w1 f cb cls n := ⟨h.ent, fun i hi w' hw => h.run i hi w' (hx.trans hw)⟩

theorem wp_loop_J {P : Program} {c : Code} {Q : Exit → Act → World → Prop} {a : Act} {w : World} (I : Act → World → Prop) (μ : Act → World → Nat) (h₀ : I a w)
    (round : ∀ a w, I a w → ∀ J : Act → World → Prop, (∀ a' w', I a' w' → μ a' w' < μ a w → J a' w') → c.wp P (Exit.then J Q) a w) : (Code.loop c).wp P Q a w :=
  wp_loop I μ h₀ fun a w h => round a w h _ (fun _ _ h1 h2 => ⟨h1, h2⟩)
/-- where the search stands at k: the frame, and what lies in memory -/
structure RAt (w : World) (g : Graph) (cls : Nat → Nat) (a : Nat) (b3 b5 b7 b8 mb : Nat) (gv fv : Value) (k : Nat) (out : List Nat) (v : Value) (Ds : List Nat) (W : World) : Prop where
  st : RSt w b3 b5 b7 b8 mb gv fv (out.map cls) out v W
  inv : RInv g.length cls (refsN g) a k out
  fin : reachN cls (refsN g) (g.length + 1 - k) k out = reachN cls (refsN g) (g.length + 1) 0 [a]
  dn : Ds.Nodup
  ds : ∀ D ∈ Ds, w.heap.size ≤ D ∧ W.heap[D]? = some (.deferred (some []))
def RLoop (w : World) (g : Graph) (cls : Nat → Nat) (a f : Nat) (cb : Array Value) (b3 b5 b7 b8 mb : Nat) (gv : Value) (act : Act) (W : World) : Prop :=
  ∃ (k : Nat) (out : List Nat) (v : Value) (Ds : List Nat) (u4 u10 u11 u12 u13 u14 u15 u16 u17 u18 u19 u20 u21 u22 u23 u24 u25 u26 u27 u28 u29 u30 u31 u32 u33 u34 u35 u36 u37 u38 u39 u40 u41 u42 u43 u44 u45 : Value),
    act = { tmps := #[.agg #[gv], .int .i64 (a : Int), .func (.func f) #[] cb, .pointer (some ⟨b3, 0, none⟩), u4, .pointer (some ⟨b5, 0, none⟩), .slice none 0 0, .pointer (some ⟨b7, 0, none⟩), .pointer (some ⟨b8, 0, none⟩), .int .i64 (k : Int), u10, u11, u12, u13, u14, u15, u16, u17, u18, u19, u20, u21, u22, u23, u24, u25, u26, u27, u28, u29, u30, u31, u32, u33, u34, u35, u36, u37, u38, u39, u40, u41, u42, u43, u44, u45], defers := marksOf Ds } ∧ RAt w g cls a b3 b5 b7 b8 mb gv (.func (.func f) #[] cb) k out v Ds W
theorem row_form {w W : World} {v : Value} {out : List Nat} (h : W.ownsRow w.heap.size 3 1 v out.length (i64V out)) (h0 : out ≠ []) : ∃ gr c, v = .slice (some ⟨gr, 0, none⟩) out.length c ∧ out.length ≤ c ∧ c ≤ maxLen ∧ ∀ j, j < out.length → W.cell? ⟨gr, j, none⟩ = some (.int .i64 (out.getD j 0 : Nat)) := by
  have hcs := fun (gr : Nat) (e : v.ownBlock = some gr) => h.cells (g := gr) e
  rcases h.2 with ⟨rfl, h1⟩ | ⟨gr, cap, cur, rfl, _, hgb, h2, h3, _⟩
  · exact absurd (List.eq_nil_of_length_eq_zero h1) h0
  · refine ⟨gr, cap, rfl, h2, h3, fun j hj => ?_⟩
    have := hcs gr rfl j (.int .i64 (out.getD j 0 : Nat)) (by simp [i64V, List.getD_eq_getElem?_getD, List.getElem?_eq_getElem hj])
    rwa [Addr.add_lit, Nat.zero_add] at this

set_option maxRecDepth 100000 in
set_option maxHeartbeats 16000000 in
theorem reach_in (w : World) (gv : Value) (g : Graph) (a : Nat) (f : Nat) (cb : Array Value) (cls : Nat → Nat) (hg : Sl tyE w gv g) (hn : g.length ≤ 1048576) (hW : WF g) (ha : a < g.length) (hc : ∀ i, i < g.length → cls i < g.length) (hS : SameP w f cb cls g.length) :
    CallsIn Fence.wide 6 Tryz.prog 87 #[.agg #[gv], .int .i64 (a : Int), .func (.func f) #[] cb] w fun e W' => ∃ v, e = .returned v ∧ W'.ownsRow w.heap.size 3 1 v (reachN cls (refsN g) (g.length + 1) 0 [a]).length (i64V (reachN cls (refsN g) (g.length + 1) 0 [a])) ∧ Ext w W' := by
  have eg : ∀ args w, (callFunc f args).run Tryz.prog w = .ok (.enter f args) w := hS.ent
  have hmm := @run_makeMap Tryz.prog
  have HS := Lib.hid hS
  have Hg := Lib.hid hg
  have HW := Lib.hid hW
  have Hc := Lib.hid hc
  obtain ⟨A, cap, rfl⟩ := hg.len
  clear hS hg hW hc
  refine callsIn_of_wp_marks Tryz.func87 rfl trivial (wpIn_wide.2 ?_) rfl
  simp only [Tryz.ntmps87, List.size_toArray, List.length_cons, List.length_nil, Nat.reduceAdd, Nat.reduceSub, Array.replicate_succ, Array.replicate_zero, List.push_toArray, List.append_toArray, List.nil_append, List.cons_append]
  go_wp2_with fail
  refine (HS.out.run a ha _ ?_).mono ?_
  · exact (((((Ext.refl w).alloc _).alloc _).alloc _).alloc _).alloc _
  rintro e w1 ⟨rfl, hw1⟩
  have hmd := MapF.made (intK Tryz.underlying3) ((((w.alloc (.cells #[.slice A g.length cap] 77)).alloc (.cells #[.func (.func f) #[] cb] 103)).alloc (.cells #[.int .i64 (a : Int)] 3)).alloc (.cells #[.slice (some ⟨w.heap.size + 1 + 1, 0, none⟩) 1 1] 24))
  simp only [World.size_alloc] at hmd
  have Hmd := Lib.hid hmd
  clear hmd
  subst hw1
  go_wp2_with (refine wpList_insert_F (intK Tryz.underlying3) (by rfl) _ _ _ 164 4 (by rfl) Tryz.underlying164 _ _ ((cls a : Nat) : Int) (by rfl) (by rfl) Hmd.out ?_; intro w3 hm3 hg3)
  have hat0 : RAt w g cls a w.heap.size (w.heap.size + 1) (w.heap.size + 1 + 1 + 1) w3.heap.size (w.heap.size + 1 + 1 + 1 + 1) (.slice A g.length cap) (.func (.func f) #[] cb) 0 [a] (.slice (some ⟨w.heap.size + 1 + 1, 0, none⟩) 1 1) [] (w3.alloc (.cells #[.map (some (w.heap.size + 1 + 1 + 1 + 1))] 164)) := by
    have e1 := heap_alloc_self w (.cells #[.slice A g.length cap] 77)
    have e2 := heap_alloc_self (w.alloc (.cells #[.slice A g.length cap] 77)) (.cells #[.func (.func f) #[] cb] 103)
    have e3 := heap_alloc_self ((w.alloc (.cells #[.slice A g.length cap] 77)).alloc (.cells #[.func (.func f) #[] cb] 103)) (.cells #[.int .i64 (a : Int)] 3)
    have e4 := heap_alloc_self (((w.alloc (.cells #[.slice A g.length cap] 77)).alloc (.cells #[.func (.func f) #[] cb] 103)).alloc (.cells #[.int .i64 (a : Int)] 3)) (.cells #[.slice (some ⟨w.heap.size + 1 + 1, 0, none⟩) 1 1] 24)
    simp only [World.size_alloc] at e2 e3 e4
    have x1 := Ext.refl w
    have hsz := hg3.size
    simp only [World.size_alloc] at hsz
    have hx3 : Ext ((((w.alloc (.cells #[.slice A g.length cap] 77)).alloc (.cells #[.func (.func f) #[] cb] 103)).alloc (.cells #[.int .i64 (a : Int)] 3)).alloc (.cells #[.slice (some ⟨w.heap.size + 1 + 1, 0, none⟩) 1 1] 24)) w3 :=
      Below.grown ((Ext.refl _).alloc _) hg3 (by simp) (fun k hk => by cases hk; simp)
    have lift : ∀ b o, ((((w.alloc (.cells #[.slice A g.length cap] 77)).alloc (.cells #[.func (.func f) #[] cb] 103)).alloc (.cells #[.int .i64 (a : Int)] 3)).alloc (.cells #[.slice (some ⟨w.heap.size + 1 + 1, 0, none⟩) 1 1] 24)).heap[b]? = some o → (w3.alloc (.cells #[.map (some (w.heap.size + 1 + 1 + 1 + 1))] 164)).heap[b]? = some o := fun b o h => (hx3.alloc (.cells #[.map (some (w.heap.size + 1 + 1 + 1 + 1))] 164)).heap h
    refine ⟨⟨?_, lift _ _ ?_, lift _ _ ?_, lift _ _ e4, ?_, heap_alloc_self w3 _, ?_, by omega, by omega, by omega, by omega, by omega, by omega⟩, RInv.init ha, rfl, List.nodup_nil, by simp⟩
    · exact ((((((Ext.refl w).alloc _).alloc _).alloc _).alloc _).trans hx3).alloc _
    · exact ((((Ext.refl _).alloc _).alloc _).alloc _).heap e1
    · exact (((Ext.refl _).alloc _).alloc _).heap e2
    · refine ⟨by simp [i64V], .inr ⟨w.heap.size + 1 + 1, 1, #[.int .i64 (a : Int)], rfl, by omega, lift _ _ (((Ext.refl _).alloc _).heap e3), Nat.le_refl _, by simp [maxLen], by simp, by simp [i64V]⟩⟩
    · have e : put (fun _ => none) ((cls a : Nat) : Int) (.bool true) = clsF ([a].map cls) := by rw [← clsF_nil, clsF_put]; rfl
      have := hm3.ext ((Ext.refl w3).alloc (.cells #[.map (some (w.heap.size + 1 + 1 + 1 + 1))] 164))
      rw [← e]; exact this
  have Hat0 := Lib.hid hat0
  clear hat0 hm3 hg3 Hmd hmm
  generalize w3.alloc (.cells #[.map (some (w.heap.size + 1 + 1 + 1 + 1))] 164) = w4 at Hat0 ⊢
  generalize w3.heap.size = b8 at Hat0 ⊢
  refine wp_loop_J (RLoop w g cls a f cb w.heap.size (w.heap.size + 1) (w.heap.size + 1 + 1 + 1) b8 (w.heap.size + 1 + 1 + 1 + 1) (.slice A g.length cap)) (fun act _ => g.length + 1 - (intOf (act.tmps.getD 9 undef)).toNat) ⟨0, [a], _, [], _, _, _, _, _, _, _, _, _, _, _, _, _, _, _, _, _, _, _, _, _, _, _, _, _, _, _, _, _, _, _, _, _, _, _, _, _, rfl, Hat0.out⟩ ?_
  clear Hat0
  generalize hb7 : w.heap.size + 1 + 1 + 1 = b7
  generalize hmb : b7 + 1 = mb
  generalize hb5 : w.heap.size + 1 = b5
  generalize hb3 : w.heap.size = b3
  clear hb7 hmb hb5 hb3
  rintro _ W ⟨k, out, v, Ds, u4, u10, u11, u12, u13, u14, u15, u16, u17, u18, u19, u20, u21, u22, u23, u24, u25, u26, u27, u28, u29, u30, u31, u32, u33, u34, u35, u36, u37, u38, u39, u40, u41, u42, u43, u44, u45, rfl, hat⟩ J hJ
  have HJ := Lib.hid hJ
  clear hJ
  have hol := hat.inv.len Hc.out
  have hkl := hat.inv.le
  have h0 : out ≠ [] := fun e => by have := hat.inv.start; rw [e] at this; simp at this
  obtain ⟨gr, c, rfl, hc1, hc2, hrow⟩ := row_form hat.st.row h0
  have c3 := hat.st.gbox.cell
  have c5 := hat.st.fbox.cell
  have c7 := hat.st.obox.cell
  have c8 := hat.st.mbox.cell
  have l3 := cell_lt c3
  have l5 := cell_lt c5
  have l7 := cell_lt c7
  have l8 := cell_lt c8
  by_cases hlt : k < out.length
  · have ck := hrow k hlt
    have lk := cell_lt ck
    have hk0 : (0 : Int) ≤ (k : Int) := by omega
    have hk1 : (k : Int) < (out.length : Int) := by omega
    have hik : out.getD k 0 < g.length := hat.inv.rng _ (getD_mem hlt)
    have hik2 : out[k]? = some (out.getD k 0) := by simp [List.getD_eq_getElem?_getD, List.getElem?_eq_getElem hlt]
    have hgo := reachN_go (cls := cls) (rf := refsN g) (f := g.length - k) hik2
    rw [show g.length - k + 1 = g.length + 1 - k by omega] at hgo
    have hinv2 := hat.inv.step HW.out.abs.rng hik2
    generalize out.getD k 0 = i at *
    have Hat := Lib.hid hat
    have Hgo := Lib.hid hgo
    have Hinv2 := Lib.hid hinv2
    have href := fun (w' : World) (hx : Ext w w') => refs_any2 w w' _ g i hx Hg.out hik hn
    have Href := Lib.hid href
    clear hat hgo hinv2 hik2 hrow href
    go_wp2_with fail
    go_still_tail 5, (by kernel_rfl)
    change wpList _ _ _ _ _ W.drew
    go_wp2_with fail
    refine (Href.out _ Hat.out.st.ext.drew).mono ?_
    rintro e w5 ⟨bx, vp, vm, vo, rfl, hbx, hof, hx5, hbl⟩
    have hgn := refs_givesN (Hat.out.st.ext.drew.trans hx5) hof (HW.out.fine (getT_mem hik)) hbx
    obtain ⟨eg2, hseq⟩ := hgn
    have eg2' : ∀ args w, (callFunc 152 args).run Tryz.prog w = .ok (.enter 152 args) w := eg2
    have Hseq := Lib.hid (hseq (6 - 1) (by omega))
    have Hx5 := Lib.hid ((Ext.refl W).drew.trans hx5)
    have Hst5 := Lib.hid (Hat.out.st.later ((Ext.refl W).drew.trans hx5))
    have Hds := Lib.hid (fun D hD => (⟨(Hat.out.ds D hD).1, ((Ext.refl W).drew.trans hx5).heap (Hat.out.ds D hD).2⟩ : w.heap.size ≤ D ∧ w5.heap[D]? = some (.deferred (some []))))
    have hmb5 := Hst5.out.map.lt
    have hw5 := Hst5.out.ext.size
    have Hext5 := Lib.hid Hst5.out.ext
    clear eg2 hseq hbx hof hx5 hbl c3 c5 c7 c8 l3 l5 l7 l8 ck lk
    go_wp2_with fail
    refine wpIn_wide.1 (wpIn_rangeFunc_ownG (F := Fence.wide) (n := 6) rfl (by omega) (gf := 152) (lb := #[.pointer (some ⟨bx, 0, none⟩)]) rfl trivial eg2' (w0 := w5) Hseq.out KpR.trans (KpR.book hw5) (Below.refl _ _) (fun _ => rfl)
      (fun (pre : List (Bel g.length)) W' => ∃ v', RSt w b3 b5 b7 b8 mb (.slice A g.length cap) (.func (.func f) #[] cb) ((addN cls out (pre.map fun x => x.1.toNat)).map cls) (addN cls out (pre.map fun x => x.1.toNat)) v' W' ∧ ∀ D ∈ Ds, w.heap.size ≤ D ∧ D < w5.heap.size ∧ W'.heap[D]? = some (.deferred (some [])))
      (fun _ _ _ => False) ?own (fun _ _ _ _ _ hs _ _ => hs) ?start ?a1 ?assign ?body ?done ?stop)
    case assign =>
      intro l x W' K hK
      gi_wp2
      exact hK
    case own =>
      rintro pre X Y row ⟨v', hst, hds⟩ hg hr
      refine ⟨v', hst.own hmb5 hw5 hg hr, fun D hD => ⟨(hds D hD).1, (hds D hD).2.1, ?_⟩⟩
      have h1 := (hds D hD).2.2
      refine (hg.block D (Array.getElem?_eq_some_iff.1 h1).1 fun e => ?_).trans h1
      have := (hr D e.symm).1
      have := (hds D hD).2.1
      omega
    case start => exact ⟨_, by simpa [addN] using Hst5.out, fun D hD => ⟨(Hds.out D hD).1, (Array.getElem?_eq_some_iff.1 (Hds.out D hD).2).1, (Hds.out D hD).2⟩⟩
    case stop =>
      rintro D c pre W' _ _ h _
      exact h.elim
    case body =>
      rintro l pre ⟨xi, hxi⟩ W' ⟨v', hst, hds⟩ hlt'
      obtain ⟨j, rfl⟩ := Int.eq_ofNat_of_zero_le hxi.1
      have hj : j < g.length := by omega
      have hadd : addN cls out ((pre ++ [(⟨(j : Int), hxi⟩ : Bel g.length)]).map fun x => x.1.toNat) = if cls j ∈ (addN cls out (pre.map fun x => x.1.toNat)).map cls then addN cls out (pre.map fun x => x.1.toNat) else addN cls out (pre.map fun x => x.1.toNat) ++ [j] := by
        rw [List.map_append, addN_append]; rfl
      have Hadd := Lib.hid hadd
      have hol2 := addN_len cls (pre.map fun x => x.1.toNat) out
      rw [List.length_map] at hol2
      clear hadd
      generalize addN cls out (pre.map fun x => x.1.toNat) = o2 at *
      have Hst2 := Lib.hid hst
      have c5 := hst.fbox.cell
      have c7 := hst.obox.cell
      have c8 := hst.mbox.cell
      have l5 := cell_lt c5
      have l7 := cell_lt c7
      have l8 := cell_lt c8
      have hlk : ∀ (w' : World), Ext W' w' → (Instr.lookup 164 (.map (some mb)) (.int .i64 ((cls j : Nat) : Int)) false).run Tryz.prog w' = .ok (.bool (decide (cls j ∈ o2.map cls))) w' := fun w' hx => by
        have h := (hst.map.ext hx).lookup Tryz.underlying164 (zeroBool' w') ((cls j : Nat) : Int)
        rw [clsF_getD] at h
        exact h
      have hcj := Hc.out j hj
      have Hlk := Lib.hid hlk
      have Hds2 := Lib.hid hds
      have hsame := fun (w' : World) (hx : Ext W' w') => HS.out.run j hj w' (hst.ext.trans hx)
      have Hsame := Lib.hid hsame
      clear hst hlk hsame hds
      by_cases hin : cls j ∈ o2.map cls
      · have Hin := Lib.hid hin
        have hl1 : ∀ nq, (Instr.lookup 164 (.map (some mb)) (.int .i64 ((cls j : Nat) : Int)) false).run Tryz.prog (W'.drewN nq) = .ok (.bool true) (W'.drewN nq) := fun nq => by
          have h := Hlk.out _ ((Ext.refl W').drewN nq); rw [decide_eq_true Hin.out] at h; exact h
        clear hin
        gi_wp2
        refine wpIn_region_X (by kernel_rfl) (by kernel_rfl) (by kernel_rfl) (fun ⟨_, _, h⟩ => h) (fun w' => ∃ n, w' = W'.drewN n) ⟨1, rfl⟩ ?_
        repeat (first | go_big_quiet_step ((exact Calls.quiet_of_same (Hsame.out _ ((Ext.refl W').drewN _)))) | quiet_step ((exact Calls.quiet_of_same (Hsame.out _ ((Ext.refl W').drewN _)))))
        refine wpQuiet_nil ?_
        intro _ hw'
        obtain ⟨nq, hw''⟩ := hw'
        subst hw''
        clear hl1
        gi_wp2
        refine ⟨KeepsFrom.of_grownBy (row := none) ⟨rfl, rfl, rfl, Nat.le_refl _, fun _ _ _ => rfl⟩ (fun _ e => by cases e), ⟨Below.mono ((Ext.refl W').drewN nq) Hst2.out.ext.size, fun _ _ _ _ _ h => h⟩, v', ?_, Hds2.out⟩
        rw [Hadd.out, if_pos Hin.out]
        exact Hst2.out.later ((Ext.refl W').drewN nq)
      · have Hin := Lib.hid hin
        have hl1 : ∀ nq, (Instr.lookup 164 (.map (some mb)) (.int .i64 ((cls j : Nat) : Int)) false).run Tryz.prog (W'.drewN nq) = .ok (.bool false) (W'.drewN nq) := fun nq => by
          have h := Hlk.out _ ((Ext.refl W').drewN nq); rw [decide_eq_false Hin.out] at h; exact h
        clear hin
        gi_wp2
        refine wpIn_region_X (by kernel_rfl) (by kernel_rfl) (by kernel_rfl) (fun ⟨_, _, h⟩ => h) (fun w' => ∃ n, w' = W'.drewN n) ⟨1, rfl⟩ ?_
        repeat (first | go_big_quiet_step ((exact Calls.quiet_of_same (Hsame.out _ ((Ext.refl W').drewN _)))) | quiet_step ((exact Calls.quiet_of_same (Hsame.out _ ((Ext.refl W').drewN _)))))
        refine wpQuiet_nil ?_
        intro _ hw'
        obtain ⟨nq, hw''⟩ := hw'
        subst hw''
        clear hl1
        have Hst3 := Lib.hid (Hst2.out.later ((Ext.refl W').drewN nq))
        gi_wp2
        refine wpIn_region_tail 4 (by kernel_rfl) (by kernel_rfl) (by kernel_rfl) (fun ⟨_, _, h⟩ => h) ?_
        simp only [List.take_succ_cons, List.take_zero, List.drop_succ_cons, List.drop_zero]
        still_step
        still_step
        still_step
        still_call (Hsame.out _ (((Ext.refl W').drewN nq).drew))
        refine wpStill_nil ?_
        refine wpList_update_F (intK Tryz.underlying3) (by rfl) _ _ _ 164 4 (by rfl) Tryz.underlying164 mb (clsF (o2.map cls)) ((cls j : Nat) : Int) (by rfl) (by rfl) (Hst3.out.map.ext (Ext.refl _).drew) ?_
        intro w8 hm8 hg8
        have hx8 : KeepsFrom w5.heap.size (W'.drewN nq).drew w8 := KeepsFrom.of_grownBy hg8 (fun r e => by cases e; exact hmb5)
        have Hst8 := Lib.hid ((Hst3.out.later (Ext.refl _).drew).mark hm8 hg8)
        have Hx8 := Lib.hid hx8
        have Hkp8 := Lib.hid (show KpR w.heap.size (W'.drewN nq).drew w8 from ⟨Below.grown (Below.refl _ _) hg8 (by have := Hst3.out.ext.size; simpa using this) (fun r e => by cases e; exact Hst3.out.nb.1), fun b cc ty fr _ hb => (hg8.block b (Array.getElem?_eq_some_iff.1 hb).1 (fun e => by
          have e : b = mb := by injection e
          obtain ⟨es, ck, h2, _⟩ := Hst3.out.map
          rw [e] at hb
          rw [show (W'.drewN nq).heap[mb]? = _ from hb] at h2
          injection h2 with h2
          cases h2)).trans hb⟩)
        have Hds8 := Lib.hid (show ∀ D ∈ Ds, w8.heap[D]? = some (.deferred (some [])) from fun D hD => (hg8.block D (Array.getElem?_eq_some_iff.1 (Hds2.out D hD).2.2).1 (fun e => by
          have e : D = mb := by injection e
          obtain ⟨es, ck, h2, _⟩ := Hst3.out.map
          have h1 := (Hds2.out D hD).2.2
          rw [e] at h1
          rw [show (W'.drewN nq).heap[mb]? = _ from h1] at h2
          injection h2 with h2
          cases h2)).trans (Hds2.out D hD).2.2)
        have d7 := Hst8.out.obox.cell
        have ld7 := cell_lt d7
        clear hm8 hg8 hx8 c5 c7 c8 l5 l7 l8
        go_wp2_with fail
        obtain ⟨i0, hi, hz0, hz1, hz2⟩ := info_parts infoI
        have hsz8 := Hst8.out.ext.size
        gi_wp2_with (gi_at_builtin; refine wpListIn_append_own _ rfl _ _ 24 rfl w.heap.size 3 i0 (.int .i64 0) 1 8 Tryz.underlying24 hi hz0 hz1 hz2 rfl (by decide) _ _ _ rfl (Hst8.out.row.alloc _) ⟨w8.heap.size, 0, none⟩ 1 1 [.int .i64 (j : Int)] rfl rfl (cell_one_new _ _ _) (by simp [Value.oneCell']) (by simp only [maxLen]; omega) (by omega) (by simp; omega) ?_; intro v2 w1 hown' hgrow _; obtain ⟨g2, cap2, rfl⟩ := ownsRow_succ hown'; obtain ⟨hv1, _, _, hk2, _⟩ := Hst8.out.obox.appended (by decide) Hst8.out.row hsz8 Hst8.out.nb.2.1 hown' hgrow; have Hk2 := Lib.hid hk2; clear hk2; have Hps := Lib.hid (Hst8.out.push hown' hgrow); have hc1 := hv1.cell; have hf1 := hv1.frozen)
        have kd : KeepsFrom w5.heap.size W' (W'.drewN nq).drew := KeepsFrom.of_grownBy (row := none) ⟨rfl, rfl, rfl, Nat.le_refl _, fun _ _ _ => rfl⟩ (fun _ e => by cases e)
        have kp : KpR w.heap.size W' (W'.drewN nq).drew := ⟨Below.mono ((Ext.refl W').drewN nq).drew Hst2.out.ext.size, fun _ _ _ _ _ h => h⟩
        refine ⟨(kd.trans Hx8.out).trans (Hk2.out.from _), (kp.trans Hkp8.out).trans Hps.out.2, .slice (some ⟨g2, 0, none⟩) (o2.length + 1) cap2, ?_, fun D hD => ⟨(Hds2.out D hD).1, (Hds2.out D hD).2.1, Hk2.out.same D _ (Hds8.out D hD) rfl⟩⟩
        rw [Hadd.out, if_neg Hin.out, List.map_append]
        exact Hps.out.1
    case done =>
      rintro D xs W' hD hxs ⟨v', hst, hds⟩ hK
      have hout : addN cls out (xs.map fun x => x.1.toNat) = addN cls out (refsN g i) := by
        unfold refsN
        rw [← hxs, List.map_map]; rfl
      rw [hout] at hst
      have hat2 : RAt w g cls a b3 b5 b7 b8 mb (.slice A g.length cap) (.func (.func f) #[] cb) (k + 1) (addN cls out (refsN g i)) v' (D :: Ds) W' := by
        refine ⟨hst, Hinv2.out, ?_, List.nodup_cons.2 ⟨fun h => ?_, Hat.out.dn⟩, fun D' h => ?_⟩
        · rw [← Hat.out.fin, Hgo.out, show g.length + 1 - (k + 1) = g.length - k by omega]
        · have := (hds D h).2.1; omega
        · rcases List.mem_cons.1 h with rfl | h
          · exact ⟨by omega, hK⟩
          · exact ⟨(hds D' h).1, (hds D' h).2.2⟩
      have Hat2 := Lib.hid hat2
      clear hat2 hst hds hout hxs hK
      go_wp2_with fail
      refine HJ.out _ _ ⟨k + 1, _, v', D :: Ds, _, _, _, _, _, _, _, _, _, _, _, _, _, _, _, _, _, _, _, _, _, _, _, _, _, _, _, _, _, _, _, _, _, _, _, _, _, rfl, Hat2.out⟩ ?_
      simp [intOf]
      omega
  · have hkk : k = out.length := by omega
    have hfin := hat.fin
    rw [hkk, reachN_done (Nat.le_refl _)] at hfin
    have Hfin := Lib.hid hfin
    have Hat := Lib.hid hat
    clear hfin hat hrow hkk h0
    go_wp2_with fail
    refine leaves_marks (I := fun W' => W'.ownsRow w.heap.size 3 1 (.slice (some ⟨gr, 0, none⟩) out.length c) out.length (i64V out) ∧ Ext w W') (p := fun D => w.heap.size ≤ D) ?_ ?_ Ds W ⟨Hat.out.st.row, Hat.out.st.ext⟩ Hat.out.dn Hat.out.ds
    · rintro w9 D hp ⟨h1, h2⟩ hD
      exact ⟨ownsRow_putObj h1 _ hD rfl, Below.trans h2 (belowK_b (w := w) (Nat.le_refl _) w9 D _ _ hp hD rfl rfl)⟩
    · rintro w9 ⟨h1, h2⟩
      refine ⟨_, results_tmp rfl _ _ _, _, rfl, ?_, h2⟩
      rw [← Hfin.out]
      exact h1
end Go.Proofs.YtldnjnnhfeobdaaGreatDoor
/- Contract: classes. Conditions: a well-formed graph, lengths below 2^20. -/
namespace Go.Proofs.YtldnjnnhfeobdaaGreatDoor
set_option linter.all false
set_option linter.unusedSimpArgs false
set_option linter.unusedVariables false
open Go.RowKit Go.Shelf

/-- none before j stands for itself and has p -/
def NoneB (c : List Nat) (p : Nat → Bool) (j : Nat) : Prop := ∀ k, k < j → ¬ (c.getD k 0 = k ∧ p k = true)
theorem NoneB.next {c : List Nat} {p : Nat → Bool} {j : Nat} (h : NoneB c p j) (hj : ¬ (c.getD j 0 = j ∧ p j = true)) : NoneB c p (j + 1) := fun k hk => by
  by_cases e : k = j
  · subst e; exact hj
  · exact h k (by omega)

/-- a new row of zeros -/
def zeros (n : Nat) : Obj := .cells ((List.replicate n 0).map fun (n : Nat) => Value.int .i64 (n : Int)).toArray 3
theorem make_zeros (w : World) (n : Nat) (hn : n ≤ 1048576) : (Instr.makeSlice 24 (.int .i64 (n : Int)) (.int .i64 (n : Int))).run Tryz.prog w = .ok (.slice (some ⟨w.heap.size, 0, none⟩) n n) (w.alloc (zeros n)) := by
  obtain ⟨i0, hi, hz0, hz1, hz2⟩ := info_parts infoI
  have h := run_makeSlice (P := Tryz.prog) (w := w) 24 3 i0 (.int .i64 0) Tryz.underlying24 hi hz0 .i64 .i64 n n (by omega) (by omega) (by rw [hz1, Int.toNat_natCast]; omega) (by rw [hz2]; omega) (by omega)
  rw [h, Int.toNat_natCast, hz1]
  have e : madeCells (Value.int .i64 0).cells (n * 1) = ((List.replicate n 0).map fun (n : Nat) => Value.int .i64 (n : Int)).toArray := by
    apply Array.ext
    · simp [madeCells]
    · intro i h1 h2
      simp [madeCells, Value.cells, Nat.mod_one]
  rw [e]
  rfl
theorem eqF_int : ∀ xs ys : List Int, eqF (fun x y => x == y) xs ys = decide (xs = ys)
  | [], [] => rfl
  | [], y :: ys => by simp [eqF]
  | x :: xs, [] => by simp [eqF]
  | x :: xs, y :: ys => by
    rw [eqF, eqF_int xs ys, Bool.eq_iff_iff]; simp
theorem look_map (g : Graph) (cs : List Nat) (i : Nat) : (refsL (getT g i)).map (lookN cs) = ((refsN g i).map (cs.getD · 0)).map fun (n : Nat) => (n : Int) := by
  unfold refsN
  rw [List.map_map, List.map_map]
  rfl
theorem look_eq (g : Graph) (cs : List Nat) (i j : Nat) : decide ((refsL (getT g i)).map (lookN cs) = (refsL (getT g j)).map (lookN cs)) = decide ((refsN g i).map (cs.getD · 0) = (refsN g j).map (cs.getD · 0)) := by
  rw [look_map, look_map, Bool.eq_iff_iff, decide_eq_true_eq, decide_eq_true_eq]
  refine ⟨fun h => ?_, fun h => by rw [h]⟩
  have := congrArg (List.map Int.toNat) h
  rw [List.map_map, List.map_map] at this
  simpa [Function.comp_def] using this
/-- has one of the first k turned? -/
def chgB (nx cs : List Nat) (k : Nat) : Bool := (List.range k).any fun i => nx.getD i 0 != cs.getD i 0
theorem chgB_succ (nx cs : List Nat) (k : Nat) : chgB nx cs (k + 1) = (chgB nx cs k || nx.getD k 0 != cs.getD k 0) := by
  simp [chgB, List.range_succ]
theorem chgB_same {nx cs : List Nat} {n : Nat} (h1 : nx.length = n) (h2 : cs.length = n) (h : chgB nx cs n = false) : nx = cs := by
  refine List.ext_getElem (by omega) fun i h3 h4 => ?_
  simp only [chgB, List.any_eq_false, List.mem_range] at h
  have := h i (by omega)
  simpa [List.getD_eq_getElem?_getD, List.getElem?_eq_getElem h3, List.getElem?_eq_getElem h4] using this
theorem chgB_diff {nx cs : List Nat} {n : Nat} (h : chgB nx cs n = true) : nx ≠ cs := by
  rintro rfl
  simp [chgB] at h
/-- what holds where a round of the refinement begins -/
def AgainB (g : Graph) (m : Nat) (b : Bool) (cs : List Nat) : Prop :=
  Rep g.length cs ∧ match b with
    | true => rankL g.length cs < m ∧ iterL (refsN g) g.length (m - 1) cs = classesG g
    | false => cs = classesG g
theorem AgainB.next {g : Graph} {m : Nat} {cs : List Nat} (h : AgainB g m true cs) : AgainB g (m - 1) (chgB (stepL (refsN g) g.length cs) cs g.length) (stepL (refsN g) g.length cs) := by
  obtain ⟨hr, h1, h2⟩ := h
  have hl : (stepL (refsN g) g.length cs).length = g.length := buildL_length _ _
  refine ⟨buildL_rep (stepQ_eqOn _ _ _), ?_⟩
  cases hc : chgB (stepL (refsN g) g.length cs) cs g.length with
  | true =>
    have hne := chgB_diff hc
    have h3 := step_rank hr hne
    refine ⟨by omega, ?_⟩
    rw [show m - 1 = (m - 1 - 1) + 1 by omega, iterL_go hne] at h2
    exact h2
  | false =>
    have e := chgB_same hl hr.len hc
    show _ = _
    rw [e, ← h2, iterL_stop e]
theorem pickL_eq {c : List Nat} {p : Nat → Bool} {i q : Nat} (hq : q ≤ i) (hn : NoneB c p q) (h : q = i ∨ c.getD q 0 = q ∧ p q = true) : pickL c p i = q := by
  by_cases e : q = i
  · subst e; exact pickL_none hn
  · rcases h with h | h
    · exact absurd h e
    · exact pickL_find (by omega) h.1 h.2 hn
theorem buildL_snoc (q : Nat → Nat → Bool) (k : Nat) : buildL q (k + 1) = buildL q k ++ [pickL (buildL q k) (q k) k] := rfl

set_option maxRecDepth 100000 in
set_option maxHeartbeats 16000000 in
theorem classes_any (w : World) (gv : Value) (g : Graph) (hg : Sl tyE w gv g) (hT : Tidy g) (hW : WF g) :
    Calls Tryz.prog 60 #[.agg #[gv]] w (RetP w (ResSl intE w ((classesG g).map fun (n : Nat) => (n : Int)))) := by
  have hn := hT.len
  have hag := fun (w' : World) (hx : Ext w w') (i j : Nat) (hi : i < g.length) (hj : j < g.length) => agree_any w' gv g i j (hg.mono hx) hT hi hj
  have hls := fun (w' : World) (hx : Ext w w') (i : Nat) (hi : i < g.length) => list_any w' gv g i g.length (hg.mono hx) hi hn (hW.fine (getT_mem hi))
  have hrl := fun (i : Nat) (hi : i < g.length) => (hW.fine (getT_mem hi)).refs_le
  have hrr := fun (i : Nat) (hi : i < g.length) => (hW.fine (getT_mem hi)).refs
  obtain ⟨A, cap, rfl⟩ := hg.len
  have hmk := fun w' => make_zeros w' g.length hn
  have Hag := Lib.hid hag
  have Hls := Lib.hid hls
  have Hrl := Lib.hid hrl
  have Hrr := Lib.hid hrr
  have HW := Lib.hid hW
  have hst : CSt w w.heap.size (w.heap.size + 2) (w.heap.size + 1) A cap g.length (buildL (agN g) 0 ++ List.replicate (g.length - 0) 0) (((w.alloc (.cells #[.slice A g.length cap] 77)).alloc (zeros g.length)).alloc (.cells #[.slice (some ⟨w.heap.size + 1, 0, none⟩) g.length g.length] 24)) := by
    have e1 := heap_alloc_self w (.cells #[.slice A g.length cap] 77)
    have e2 := heap_alloc_self (w.alloc (.cells #[.slice A g.length cap] 77)) (zeros g.length)
    have e3 := heap_alloc_self ((w.alloc (.cells #[.slice A g.length cap] 77)).alloc (zeros g.length)) (.cells #[.slice (some ⟨w.heap.size + 1, 0, none⟩) g.length g.length] 24)
    simp only [World.size_alloc] at e2 e3
    refine ⟨(((Ext.refl w).alloc _).alloc _).alloc _, ?_, ?_, ?_, by simp [buildL], by omega, by omega, by omega, by omega, by omega⟩
    · exact Boxed.ext (Boxed.ext e1 ((Ext.refl _).alloc _)) ((Ext.refl _).alloc _)
    · exact e3
    · exact IntRow.ext e2 ((Ext.refl _).alloc _)
  have Hst := Lib.hid hst
  clear hag hls hg hT hW hrl hrr hst
  go_enter Tryz.func60, Tryz.ntmps60
  go_wp2_with fail
  generalize hw0 : ((w.alloc (.cells #[.slice A g.length cap] 77)).alloc (zeros g.length)).alloc (.cells #[.slice (some ⟨w.heap.size + 1, 0, none⟩) g.length g.length] 24) = w0 at Hst ⊢
  clear hw0
  go_loopw [17] (fun i wr => ∃ k : Nat, k ≤ g.length ∧ i = .int .i64 k ∧ Hid (CSt w w.heap.size (w.heap.size + 2) (w.heap.size + 1) A cap g.length (buildL (agN g) k ++ List.replicate (g.length - k) 0) wr)) (fun i _ => g.length - (intOf i).toNat)
  case atStart => exact ⟨0, by omega, by simp, Hst⟩
  case round =>
    clear Hst
    obtain ⟨k, hk, rfl, Hst⟩ := hrel
    by_cases hlt : k < g.length
    · go_wp2_with fail
      obtain ⟨wo, rfl⟩ : ∃ wo : World, wo = wr := ⟨_, rfl⟩
      go_loopw [22] (fun j wr => ∃ q : Nat, q ≤ k ∧ j = .int .i64 q ∧ Hid (NoneB (buildL (agN g) k) (agN g k) q) ∧ Hid (CSt w w.heap.size (w.heap.size + 2) (w.heap.size + 1) A cap g.length (buildL (agN g) k ++ List.replicate (g.length - k) 0) wr)) (fun j _ => k + 1 - (intOf j).toNat)
      case atStart => exact ⟨0, by omega, by simp, fun _ h => by omega, Hst⟩
      case round =>
        clear Hst
        obtain ⟨q, hq, rfl, Hno, Hst⟩ := hrel
        have hln := Hst.out.len
        have cx := Hst.out.cbox.cell
        have cg := Hst.out.gbox.cell
        have cq := Hst.out.row.cell q (by omega)
        have l0 := cell_lt cx
        have l1 := cell_lt cg
        have l2 := cell_lt cq
        have hq1 : (q : Int) < (k : Int) + 1 := by omega
        have hq2 : (0 : Int) ≤ (q : Int) := by omega
        have hq3 : (q : Int) < (g.length : Int) := by omega
        have hk2 : (0 : Int) ≤ (k : Int) := by omega
        have hk3 : (k : Int) < (g.length : Int) := by omega
        have Hset := Lib.hid (set_next (buildL (agN g) k) k g.length (pickL (buildL (agN g) k) (agN g k) k) (buildL_length _ _) hlt)
        by_cases hqk : q < k
        · rw [getD_pre _ _ _ (by rw [buildL_length]; exact hqk)] at cq
          have hqk' : ((q : Int) == (k : Int)) = false := by rw [beq_eq_false_iff_ne]; omega
          by_cases hc : (buildL (agN g) k).getD q 0 = q
          · rw [hc] at cq
            have Hc := Lib.hid hc
            cases ha : agN g k q
            · have Hno2 := Lib.hid (Hno.out.next (fun h => by simp [ha] at h))
              have Ha := Lib.hid ha
              clear hc ha hln
              go_wp2_with fail
              refine (Hag.out _ Hst.out.ext k q hlt (by omega)).mono ?_
              rintro e w1 ⟨rfl, hx1⟩
              rw [Ha.out]
              have Hst1 := Lib.hid (Hst.out.later hx1)
              clear hx1 cx cg cq
              go_wp2_with fail
              go_roundw
              case rel => exact ⟨q + 1, by omega, by go_num, Hno2, Hst1⟩
              case measure => simp [intOf]; omega
            · have hp := pickL_eq hq Hno.out (.inr ⟨hc, ha⟩)
              have Ha := Lib.hid ha
              have Hp := Lib.hid hp
              clear hc ha hln hp
              go_wp2_with fail
              refine (Hag.out _ Hst.out.ext k q hlt (by omega)).mono ?_
              rintro e w1 ⟨rfl, hx1⟩
              rw [Ha.out]
              have Hst1 := Lib.hid (Hst.out.later hx1)
              clear hx1 cx cg cq l0 l1 l2
              have cx := Hst1.out.cbox.cell
              have ck := Hst1.out.row.cell k (by rw [Hst1.out.len]; exact hlt)
              have fk := Hst1.out.row.frozen k
              have l0 := cell_lt cx
              have l2 := cell_lt ck
              go_wp2_with fail
              go_roundw
              case rel => exact ⟨k + 1, by omega, by go_num, Lib.hid (by have h := Hst1.out.set k q; rw [buildL_snoc]; rw [← Hset.out, Hp.out]; exact h)⟩
              case measure => simp [intOf]; omega
          · have hc' : ((((buildL (agN g) k).getD q 0 : Nat) : Int) == (q : Int)) = false := by rw [beq_eq_false_iff_ne]; omega
            have Hno2 := Lib.hid (Hno.out.next (fun h => hc h.1))
            generalize (buildL (agN g) k).getD q 0 = c at cq hc'
            clear hc hln
            go_wp2_with fail
            go_roundw
            case rel => exact ⟨q + 1, by omega, by go_num, Hno2, Hst⟩
            case measure => simp [intOf]; omega
        · obtain rfl : q = k := by omega
          rw [getD_zero _ _ _ (by rw [buildL_length]; omega)] at cq
          have hp := pickL_eq hq Hno.out (.inl rfl)
          have Hp := Lib.hid hp
          have ck := cq
          have fk := Hst.out.row.frozen q
          clear hln hp hqk
          by_cases h0 : q = 0
          · subst h0
            have ha : agN g 0 0 = true := byF_agree.refl _
            have Ha := Lib.hid ha
            clear ha
            go_wp2_with fail
            refine (Hag.out _ Hst.out.ext 0 0 hlt hlt).mono ?_
            rintro e w1 ⟨rfl, hx1⟩
            rw [Ha.out]
            have Hst1 := Lib.hid (Hst.out.later hx1)
            clear hx1 cx cg cq ck fk l0 l1 l2
            have cx := Hst1.out.cbox.cell
            have ck := Hst1.out.row.cell 0 (by rw [Hst1.out.len]; exact hlt)
            have fk := Hst1.out.row.frozen 0
            have l0 := cell_lt cx
            have l2 := cell_lt ck
            go_wp2_with fail
            go_roundw
            case rel => exact ⟨1, by omega, by go_num, Lib.hid (by have h := Hst1.out.set 0 0; rw [buildL_snoc]; rw [← Hset.out, Hp.out]; exact h)⟩
            case measure => simp [intOf]; omega
          · have h0' : ((0 : Int) == (q : Int)) = false := by rw [beq_eq_false_iff_ne]; omega
            go_wp2_with fail
            go_roundw
            case rel => exact ⟨q + 1, by omega, by go_num, Lib.hid (by have h := Hst.out.set q q; rw [buildL_snoc]; rw [← Hset.out, Hp.out]; exact h)⟩
            case measure => simp [intOf]; omega
    · obtain rfl : k = g.length := by omega
      have Hst1 := Lib.hid (by have h := Hst.out; rwa [Nat.sub_self, List.replicate_zero, List.append_nil] at h : CSt w w.heap.size (w.heap.size + 2) (w.heap.size + 1) A cap g.length (buildL (agN g) g.length) wr)
      clear Hst hlt
      go_wp2_with fail
      go_loopg [6] (g.length + 1) (fun m ag wr => ∃ (b : Bool) (Bc : Nat) (cs : List Nat), ag = .bool b ∧ Hid (CSt w w.heap.size (w.heap.size + 2) Bc A cap g.length cs wr) ∧ Hid (AgainB g m b cs))
      case atStart =>
        refine ⟨true, _, _, rfl, Hst1, ?_⟩
        exact ⟨buildL_rep (agN_eqOn g _), by have := rankL_le g.length (buildL (agN g) g.length); omega, rfl⟩
      case round =>
        clear Hst1
        obtain ⟨b, Bc, cs, rfl, Hst, Hgn⟩ := hrel
        cases b
        · have cx := Hst.out.cbox.cell
          have hcs : cs = classesG g := Hgn.out.2
          have Hcs := Lib.hid hcs
          clear hcs
          go_wp2_with fail
          go_ret
          refine ⟨_, rfl, ?_, Hst.out.ext⟩
          have h := IntRow.sl Hst.out.row g.length (by rw [Hst.out.len]; exact Nat.le_refl _)
          rw [Hst.out.len] at h
          rw [← Hcs.out]
          obtain ⟨A1, c1, e1, h1⟩ := h
          refine ⟨A1, c1, e1, fun i x hi => ?_⟩
          obtain ⟨b1, o1, cs1, e2, ⟨_, hle⟩, e3, e4⟩ := h1 i x hi
          refine ⟨b1, o1, cs1, e2, ⟨?_, hle⟩, e3, e4⟩
          rw [e2] at e1
          injection e1 with e5 e6 e7
          injection e5 with e8
          injection e8 with e9
          subst e9
          exact Hst.out.nb.1
        · have cx := Hst.out.cbox.cell
          have l0 := cell_lt cx
          obtain ⟨wo, rfl⟩ : ∃ wo : World, wo = wr := ⟨_, rfl⟩
          have Hnb := Lib.hid Hst.out.nb
          have Hs0 := Lib.hid (Hst.out.later ((Ext.refl wo).alloc (zeros g.length)))
          have Hz0 := Lib.hid (show IntRow (wo.alloc (zeros g.length)) wo.heap.size (buildL (stepQ (refsN g) cs) 0 ++ List.replicate (g.length - 0) 0) from heap_alloc_self wo (zeros g.length))
          have Hbn := Lib.hid (show w.heap.size ≤ wo.heap.size ∧ w.heap.size ≠ wo.heap.size ∧ w.heap.size + 2 ≠ wo.heap.size ∧ Bc ≠ wo.heap.size from ⟨Hst.out.ext.size, by have := Hst.out.gbox.lt; omega, by have := Hst.out.cbox.lt; omega, by have := Hst.out.row.lt; omega⟩)
          clear Hst
          go_wp2_with fail
          obtain ⟨Bn, hBn⟩ : ∃ Bn, Bn = wo.heap.size := ⟨_, rfl⟩
          rw [← hBn] at Hz0 Hbn ⊢
          clear hBn cx l0
          generalize wo.alloc (zeros g.length) = wz at Hs0 Hz0 ⊢
          go_loopw [6, 54] (fun ag i wr => ∃ k : Nat, k ≤ g.length ∧ i = .int .i64 k ∧ ag = .bool (chgB (stepL (refsN g) g.length cs) cs k) ∧ Hid (CSt w w.heap.size (w.heap.size + 2) Bc A cap g.length cs wr) ∧ Hid (IntRow wr Bn (buildL (stepQ (refsN g) cs) k ++ List.replicate (g.length - k) 0))) (fun _ i _ => g.length - (intOf i).toNat)
          case atStart => exact ⟨0, by omega, by simp, rfl, Hs0, Hz0⟩
          case round =>
            clear Hs0 Hz0
            obtain ⟨k, hk, rfl, rfl, Hst, Hnx⟩ := hrel
            by_cases hlt : k < g.length
            · have cg := Hst.out.gbox.cell
              have l1 := cell_lt cg
              have hk2 : (0 : Int) ≤ (k : Int) := by omega
              have hk3 : (k : Int) < (g.length : Int) := by omega
              obtain ⟨wo2, rfl⟩ : ∃ wo : World, wo = wr := ⟨_, rfl⟩
              generalize hch : chgB (stepL (refsN g) g.length cs) cs k = chk
              have Hch := Lib.hid hch
              clear hch
              go_wp2_with fail
              refine (Hls.out _ Hst.out.ext k hlt).mono ?_
              rintro e w1 ⟨v1, rfl, hv1, hx1⟩
              have Hst1 := Lib.hid (Hst.out.later hx1)
              have Hnx1 := Lib.hid (Hnx.out.ext hx1)
              have Hv1 := Lib.hid hv1.any
              obtain ⟨A1, c1, e1⟩ := hv1.any.len
              subst e1
              clear hv1 hx1 cg l1 Hst Hnx
              have Hmp := Lib.hid (turned_int_int 109 #[.pointer (some ⟨w.heap.size + 2, 0, none⟩)] w1 _ (refsL (getT g k)) (lookN cs) Hv1.out (by have := Hrl.out k hlt; omega) (map109 w1 _ Bc g.length cs _ Hst1.out.cbox Hst1.out.row Hst1.out.len hn (Hrr.out k hlt)))
              go_wp2_with fail
              refine Hmp.out.mono ?_
              rintro e w2 ⟨v2, rfl, hv2, hx2⟩
              have Hst2 := Lib.hid (Hst1.out.later hx2)
              have Hnx2 := Lib.hid (Hnx1.out.ext hx2)
              have Hv2 := Lib.hid hv2.any
              obtain ⟨A2, c2, e2⟩ := hv2.any.len
              rw [List.length_map] at e2
              subst e2
              clear hv2 hx2 Hmp Hv1 Hst1 Hnx1
              go_wp2_with fail
              have Hlk := Lib.hid (Hrl.out k hlt)
              generalize (refsL (getT g k)).length = lk at *
              clear hk2 hk3
              go_loopw [64] (fun j wq => ∃ q : Nat, q ≤ k ∧ j = .int .i64 q ∧ Hid (NoneB (buildL (stepQ (refsN g) cs) k) (stepQ (refsN g) cs k) q) ∧ Hid (CSt w w.heap.size (w.heap.size + 2) Bc A cap g.length cs wq) ∧ Hid (IntRow wq Bn (buildL (stepQ (refsN g) cs) k ++ List.replicate (g.length - k) 0)) ∧ Hid (Sl intE wq (.slice A2 lk c2) ((refsL (getT g k)).map (lookN cs)))) (fun j _ => k + 1 - (intOf j).toNat)
              case atStart => exact ⟨0, by omega, by simp, fun _ h => by omega, Hst2, Hnx2, Hv2⟩
              case round =>
                clear Hst2 Hnx2 Hv2
                obtain ⟨q, hq, rfl, Hno, Hst, Hnx, Hv2⟩ := hrel
                obtain ⟨wq, rfl⟩ : ∃ wq : World, wq = wr := ⟨_, rfl⟩
                have hln := Hst.out.len
                have hnl : (buildL (stepQ (refsN g) cs) k ++ List.replicate (g.length - k) 0).length = g.length := by rw [List.length_append, buildL_length, List.length_replicate]; omega
                have cx := Hst.out.cbox.cell
                have cg := Hst.out.gbox.cell
                have kq := Hst.out.row.cell q (by omega)
                have kk := Hst.out.row.cell k (by omega)
                have nq := Hnx.out.cell q (by omega)
                have l0 := cell_lt cx
                have l1 := cell_lt cg
                have l2 := cell_lt nq
                have l3 := cell_lt kq
                have hq1 : (q : Int) < (k : Int) + 1 := by omega
                have hq2 : (0 : Int) ≤ (q : Int) := by omega
                have hq3 : (q : Int) < (g.length : Int) := by omega
                have hk2 : (0 : Int) ≤ (k : Int) := by omega
                have hk3 : (k : Int) < (g.length : Int) := by omega
                have Hset := Lib.hid (set_next (buildL (stepQ (refsN g) cs) k) k g.length (pickL (buildL (stepQ (refsN g) cs) k) (stepQ (refsN g) cs k) k) (buildL_length _ _) hlt)
                have Hgd := Lib.hid (buildL_getD (stepQ (refsN g) cs) g.length k hlt)
                have Hln := Lib.hid hln
                have Hnl := Lib.hid hnl
                clear hln hnl
                by_cases hqk : q < k
                · rw [getD_pre _ _ _ (by rw [buildL_length]; exact hqk)] at nq
                  have hqk' : ((q : Int) == (k : Int)) = false := by rw [beq_eq_false_iff_ne]; omega
                  by_cases hc : (buildL (stepQ (refsN g) cs) k).getD q 0 = q
                  · rw [hc] at nq
                    by_cases hcc : cs.getD k 0 = cs.getD q 0
                    · rw [← hcc] at kq
                      have hsr : eqF (fun x y => x == y) ((refsL (getT g k)).map (lookN cs)) ((refsL (getT g q)).map (lookN cs)) = stepQ (refsN g) cs k q := by
                        rw [eqF_int, look_eq, stepQ, hcc]; simp
                      have hS : ∀ w', Ext wq w' → (w'.cell? ⟨w.heap.size, 0, none⟩ = some (.slice A g.length cap) ∧ w'.cell? ⟨w.heap.size + 2, 0, none⟩ = some (.slice (some ⟨Bc, 0, none⟩) g.length g.length) ∧ w'.cell? ⟨Bc, q, none⟩ = some (.int .i64 ((cs.getD k 0 : Nat) : Int)) ∧ w'.cell? ⟨Bc, k, none⟩ = some (.int .i64 ((cs.getD k 0 : Nat) : Int)) ∧ w'.cell? ⟨Bn, q, none⟩ = some (.int .i64 (q : Int))) := fun w' h => ⟨h.cell cg, h.cell cx, h.cell kq, h.cell kk, h.cell nq⟩
                      have hmq := fun (w1 : World) (v : Value) (hx : Ext wq w1) (hv : Sl intE w1 v (refsL (getT g q))) => turned_int_int 110 #[.pointer (some ⟨w.heap.size + 2, 0, none⟩)] w1 v (refsL (getT g q)) (lookN cs) hv (by have := Hrl.out q (by omega); omega) (map110 w1 _ Bc g.length cs _ (Hst.out.later hx).cbox (Hst.out.later hx).row (Hst.out.later hx).len hn (Hrr.out q (by omega)))
                      have heq := fun (w1 : World) (v : Value) (hx : Ext wq w1) (hv : Sl intE w1 v ((refsL (getT g q)).map (lookN cs))) => equal_int w1 _ v _ _ (Hv2.out.mono hx) hv (by rw [List.length_map]; have := Hrl.out k hlt; omega) (by rw [List.length_map]; have := Hrl.out q (by omega); omega)
                      rw [hsr] at heq
                      have hp := fun (h : stepQ (refsN g) cs k q = true) => pickL_eq hq Hno.out (.inr ⟨hc, h⟩)
                      have hno2 := fun (h : stepQ (refsN g) cs k q = false) => Hno.out.next (fun h2 => by rw [h] at h2; simp at h2)
                      generalize stepQ (refsN g) cs k q = r at heq hp hno2
                      have HS := Lib.hid hS
                      have Hmq := Lib.hid hmq
                      have Heq := Lib.hid heq
                      have Hp0 := Lib.hid hp
                      have Hno0 := Lib.hid hno2
                      have Hlq := Lib.hid (Hls.out wq.drew (Hst.out.ext.trans (Ext.refl wq).drew) q (by omega))
                      generalize (refsL (getT g q)).map (lookN cs) = Mq at Hmq Heq
                      have Hlq' := Hlq
                      generalize hck : cs.getD k 0 = ckv at kq kk HS
                      have Hck := Lib.hid hck
                      clear hS hmq heq hp hno2 hc hcc hsr hck
                      go_wp2_with fail
                      go_region_held3 (fun w' => w'.cell? ⟨w.heap.size, 0, none⟩ = some (.slice A g.length cap) ∧ w'.cell? ⟨w.heap.size + 2, 0, none⟩ = some (.slice (some ⟨Bc, 0, none⟩) g.length g.length) ∧ w'.cell? ⟨Bc, q, none⟩ = some (.int .i64 (ckv : Int)) ∧ w'.cell? ⟨Bc, k, none⟩ = some (.int .i64 (ckv : Int)) ∧ w'.cell? ⟨Bn, q, none⟩ = some (.int .i64 (q : Int))) (first | exact HS.out _ (Ext.refl _).drew | exact HS.out _ hxa | exact HS.out _ hxb | exact HS.out _ hxc) (first | (go_at_call 56; refine Hlq.out.mono ?_; rintro e wa ⟨va, rfl, hva, hxa0⟩; have hxa := ((Ext.refl wq).drew).trans hxa0; obtain ⟨Aa, ca, ea⟩ := hva.any.len; subst ea) | (go_at_call 73; refine (Hmq.out _ _ hxa hva.any).mono ?_; rintro e wb ⟨vb, rfl, hvb, hxb0⟩; have hxb := hxa.trans hxb0; obtain ⟨Ab, cb, eb⟩ := hvb.any.len; subst eb) | (go_at_call 80; refine (Heq.out _ _ hxb hvb.any).mono ?_; rintro e wc ⟨rfl, hxc0⟩; have hxc := hxb.trans hxc0))
                      all_goals
                        have Hst3 := Lib.hid (Hst.out.later hxc)
                        have Hn3 := Lib.hid (Hnx.out.ext hxc)
                        have Hv3 := Lib.hid (Hv2.out.mono hxc)
                        clear cx cg kq kk nq l0 l1 l2 l3 hxa0 hxb0 hxc0 hxa hxb hxc hva hvb HS Hmq Heq Hlq Hlq' Hst Hnx Hv2
                        cases r
                        · have Hno2 := Lib.hid (Hno0.out rfl)
                          go_wp2_with fail
                          go_roundw
                          case rel => exact ⟨q + 1, by omega, by go_num, Hno2, Hst3, Hn3, Hv3⟩
                          case measure => simp [intOf]; omega
                        · have Hp := Lib.hid (Hp0.out rfl)
                          have nk := Hn3.out.cell k (by rw [Hnl.out]; exact hlt)
                          have fk := Hn3.out.frozen k
                          have l2 := cell_lt nk
                          have nk0 := Lib.hid nk
                          go_wp2_with fail
                          clear nk fk l2
                          have Hst4 := Lib.hid (Hst3.out.put Bn k (.int .i64 (q : Int)) Hbn.out.1 Hbn.out.2.1 Hbn.out.2.2.1 Hbn.out.2.2.2)
                          have Hn4 := Lib.hid (show IntRow (wc.setCell ⟨Bn, k, none⟩ (.int .i64 (q : Int))) Bn (buildL (stepQ (refsN g) cs) (k + 1) ++ List.replicate (g.length - (k + 1)) 0) by have h := Hn3.out.set k q; rw [buildL_snoc, ← Hset.out, Hp.out]; exact h)
                          have c4x := Hst4.out.cbox.cell
                          have c4k := Hst4.out.row.cell k (by rw [Hst4.out.len]; exact hlt)
                          have n4k : (wc.setCell ⟨Bn, k, none⟩ (.int .i64 (q : Int))).cell? ⟨Bn, k, none⟩ = some (.int .i64 (q : Int)) := World.cell?_setCell_same' _ _ _ (by rw [nk0.out]; rfl)
                          have hb : ((q : Int) != ((cs.getD k 0 : Nat) : Int)) = (pickL (buildL (stepQ (refsN g) cs) k) (stepQ (refsN g) cs k) k != cs.getD k 0) := by
                            rw [Hp.out, Bool.eq_iff_iff, bne_iff_ne, bne_iff_ne]; omega
                          have hsc := chgB_succ (stepL (refsN g) g.length cs) cs k
                          rw [show (stepL (refsN g) g.length cs).getD k 0 = pickL (buildL (stepQ (refsN g) cs) k) (stepQ (refsN g) cs k) k from Hgd.out, Hch.out, ← hb] at hsc
                          have Hsc := Lib.hid hsc
                          generalize hbb : ((q : Int) != ((cs.getD k 0 : Nat) : Int)) = bb at hb Hsc
                          generalize cs.getD k 0 = ckv at c4k hbb
                          clear hb hsc
                          generalize wc.setCell ⟨Bn, k, none⟩ (.int .i64 (q : Int)) = w5 at Hst4 Hn4 c4x c4k n4k ⊢
                          cases chk
                          · go_quiet (fail)
                            go_wp2_with fail
                            go_roundw
                            case rel => exact ⟨k + 1, by omega, by go_num, by rw [Hsc.out]; simp, Hst4.out.later ((Ext.refl _).drewN _), Hn4.out.ext ((Ext.refl _).drewN _)⟩
                            case measure => simp [intOf]; omega
                          · go_quiet (fail)
                            go_wp2_with fail
                            go_roundw
                            case rel => exact ⟨k + 1, by omega, by go_num, by rw [Hsc.out]; simp, Hst4.out.later ((Ext.refl _).drewN _), Hn4.out.ext ((Ext.refl _).drewN _)⟩
                            case measure => simp [intOf]; omega
                    · have hcc' : (((cs.getD q 0 : Nat) : Int) == ((cs.getD k 0 : Nat) : Int)) = false := by rw [beq_eq_false_iff_ne]; omega
                      have Hno2 := Lib.hid (Hno.out.next (fun h => hcc (stepQ_iff.1 h.2).1))
                      generalize cs.getD q 0 = cqv at kq hcc'
                      generalize cs.getD k 0 = ckv at kk hcc'
                      clear hc hcc
                      go_wp2_with fail
                      go_quiet (fail)
                      go_wp2_with fail
                      go_roundw
                      case rel => exact ⟨q + 1, by omega, by go_num, Hno2, Hst.out.later ((Ext.refl _).drewN _), Hnx.out.ext ((Ext.refl _).drewN _), Hv2.out.mono ((Ext.refl _).drewN _)⟩
                      case measure => simp [intOf]; omega
                  · have hc' : ((((buildL (stepQ (refsN g) cs) k).getD q 0 : Nat) : Int) == (q : Int)) = false := by rw [beq_eq_false_iff_ne]; omega
                    have Hno2 := Lib.hid (Hno.out.next (fun h => hc h.1))
                    generalize (buildL (stepQ (refsN g) cs) k).getD q 0 = c at nq hc'
                    clear hc
                    go_wp2_with fail
                    go_quiet (fail)
                    go_wp2_with fail
                    go_roundw
                    case rel => exact ⟨q + 1, by omega, by go_num, Hno2, Hst.out.later ((Ext.refl _).drewN _), Hnx.out.ext ((Ext.refl _).drewN _), Hv2.out.mono ((Ext.refl _).drewN _)⟩
                    case measure => simp [intOf]; omega
                · obtain rfl : q = k := by omega
                  have hp := pickL_eq hq Hno.out (.inl rfl)
                  have Hp := Lib.hid hp
                  clear hp hqk
                  rw [getD_zero _ _ _ (by rw [buildL_length]; omega)] at nq
                  go_wp2_with fail
                  go_quiet (fail)
                  generalize hw3 : wq.drewN _ = w3
                  have hx3 : Ext wq w3 := hw3 ▸ (Ext.refl wq).drewN _
                  have Hst3 := Lib.hid (Hst.out.later hx3)
                  have Hn3 := Lib.hid (Hnx.out.ext hx3)
                  clear hw3 cx cg kq kk nq l0 l1 l2 l3 hx3
                  have nk := Hn3.out.cell q (by rw [Hnl.out]; exact hlt)
                  have fk := Hn3.out.frozen q
                  have l2 := cell_lt nk
                  have nk0 := Lib.hid nk
                  go_wp2_with fail
                  clear nk fk l2
                  have Hst4 := Lib.hid (Hst3.out.put Bn q (.int .i64 (q : Int)) Hbn.out.1 Hbn.out.2.1 Hbn.out.2.2.1 Hbn.out.2.2.2)
                  have Hn4 := Lib.hid (show IntRow (w3.setCell ⟨Bn, q, none⟩ (.int .i64 (q : Int))) Bn (buildL (stepQ (refsN g) cs) (q + 1) ++ List.replicate (g.length - (q + 1)) 0) by have h := Hn3.out.set q q; rw [buildL_snoc, ← Hset.out, Hp.out]; exact h)
                  have c4x := Hst4.out.cbox.cell
                  have c4k := Hst4.out.row.cell q (by rw [Hst4.out.len]; exact hlt)
                  have n4k : (w3.setCell ⟨Bn, q, none⟩ (.int .i64 (q : Int))).cell? ⟨Bn, q, none⟩ = some (.int .i64 (q : Int)) := World.cell?_setCell_same' _ _ _ (by rw [nk0.out]; rfl)
                  have hb : ((q : Int) != ((cs.getD q 0 : Nat) : Int)) = (pickL (buildL (stepQ (refsN g) cs) q) (stepQ (refsN g) cs q) q != cs.getD q 0) := by
                    rw [Hp.out, Bool.eq_iff_iff, bne_iff_ne, bne_iff_ne]; omega
                  have hsc := chgB_succ (stepL (refsN g) g.length cs) cs q
                  rw [show (stepL (refsN g) g.length cs).getD q 0 = pickL (buildL (stepQ (refsN g) cs) q) (stepQ (refsN g) cs q) q from Hgd.out, Hch.out, ← hb] at hsc
                  have Hsc := Lib.hid hsc
                  generalize hbb : ((q : Int) != ((cs.getD q 0 : Nat) : Int)) = bb at hb Hsc
                  generalize cs.getD q 0 = ckv at c4k hbb
                  clear hb hsc
                  generalize w3.setCell ⟨Bn, q, none⟩ (.int .i64 (q : Int)) = w5 at Hst4 Hn4 c4x c4k n4k ⊢
                  cases chk
                  · go_quiet (fail)
                    go_wp2_with fail
                    go_roundw
                    case rel => exact ⟨q + 1, by omega, by go_num, by rw [Hsc.out]; simp, Hst4.out.later ((Ext.refl _).drewN _), Hn4.out.ext ((Ext.refl _).drewN _)⟩
                    case measure => simp [intOf]; omega
                  · go_quiet (fail)
                    go_wp2_with fail
                    go_roundw
                    case rel => exact ⟨q + 1, by omega, by go_num, by rw [Hsc.out]; simp, Hst4.out.later ((Ext.refl _).drewN _), Hn4.out.ext ((Ext.refl _).drewN _)⟩
                    case measure => simp [intOf]; omega
            · obtain rfl : k = g.length := by omega
              have hz : (buildL (stepQ (refsN g) cs) g.length ++ List.replicate (g.length - g.length) 0) = stepL (refsN g) g.length cs := by
                rw [Nat.sub_self, List.replicate_zero, List.append_nil]; rfl
              have Hn2 := Lib.hid (by have h := Hnx.out; rwa [hz] at h : IntRow wr Bn (stepL (refsN g) g.length cs))
              have Hcb := Lib.hid (Boxed.set (.slice (some ⟨Bn, 0, none⟩) g.length g.length) Hst.out.cbox)
              have Hst5 := Lib.hid (show CSt w w.heap.size (w.heap.size + 2) Bn A cap g.length (stepL (refsN g) g.length cs) (wr.setCell ⟨w.heap.size + 2, 0, none⟩ (.slice (some ⟨Bn, 0, none⟩) g.length g.length)) from
                ⟨Hst.out.ext.setCell (by simp) _, Boxed.other' Hst.out.gbox _ (by omega), Hcb.out, Hn2.out.other _ (fun e => Hbn.out.2.2.1 e.symm), buildL_length _ _, Hbn.out.1, by omega, Hbn.out.2.1, Hbn.out.2.2.1, by omega⟩)
              have cx := Hst.out.cbox.cell
              have fx := Hst.out.cbox.frozen
              have l0 := cell_lt cx
              have Hgn2 := Lib.hid Hgn.out.next
              have hgk : 0 < gk := by have := Hgn.out.2.1; omega
              clear hz Hnx Hst hlt
              go_wp2_with fail
              go_roundg (gk - 1)
              case rel => exact ⟨_, _, _, rfl, Hst5, Hgn2⟩
              case measure => omega
end Go.Proofs.YtldnjnnhfeobdaaGreatDoor
/- Contracts: Equal, Word, Classes. Conditions: lengths below 2^20. -/
namespace Go.Proofs.YtldnjnnhfeobdaaGreatDoor
set_option linter.all false
set_option linter.unusedSimpArgs false
set_option linter.unusedVariables false
open Go.RowKit Go.Shelf

theorem lit_ints (W : World) (l : List Int) (n : Nat) (hn : l.length = n) : Sl intE (W.alloc (.cells (l.map fun x => Value.int .i64 x).toArray 3)) (.slice (some ⟨W.heap.size, 0, none⟩) n n) l := by
  subst hn
  refine ⟨_, _, rfl, fun i x hi => ⟨_, _, _, rfl, ⟨trivial, Nat.le_refl _⟩, rfl, fun j u hj => ?_⟩⟩
  have hlt := (List.getElem?_eq_some_iff.1 hi).1
  cases j with
  | zero =>
    simp at hj
    subst hj
    simp only [intE, Nat.mul_one, Nat.add_zero, Nat.zero_add]
    rw [World.cell?_alloc_new]
    simp [hi]
  | succ j => simp at hj
theorem Sl.nat {w : World} {v : Value} {ns : List Nat} (h : Sl intE w v (ns.map fun (n : Nat) => (n : Int))) : ∃ A cap, v = .slice A ns.length cap ∧
    ∀ i, i < ns.length → ∃ b off, A = some ⟨b, off, none⟩ ∧ w.cell? ⟨b, off + i, none⟩ = some (.int .i64 (ns.getD i 0 : Nat)) := by
  obtain ⟨A, cap, rfl, hs⟩ := h.int
  refine ⟨A, cap, by rw [List.length_map], fun i hi => ?_⟩
  obtain ⟨b, off, e, hc⟩ := hs i (by rw [List.length_map]; exact hi)
  refine ⟨b, off, e, ?_⟩
  rw [hc]
  simp [List.getD_eq_getElem?_getD, List.getElem?_eq_getElem hi]
theorem errG_vals (g : Graph) (ats : List Int) : errG g ats = 0 ∨ errG g ats = 1 ∨ errG g ats = 30 := by
  unfold errG
  split
  · split
    · exact .inr (.inl rfl)
    · exact .inl rfl
  · exact .inr (.inr rfl)
theorem errG_zero {g : Graph} {ats : List Int} (h : errG g ats = 0) : WF g ∧ ∀ a ∈ ats, 0 ≤ a ∧ a < g.length := by
  unfold errG at h
  split at h
  · rename_i h1
    refine ⟨checkG_ok.1 h1, fun a ha => ?_⟩
    cases hc : ats.any (outB g.length) with
    | true => simp [hc] at h
    | false =>
      rw [List.any_eq_false] at hc
      have := hc a ha
      simp only [outB, Bool.not_eq_true', Bool.not_eq_false] at this
      exact hasB_iff.1 this
  · omega
theorem errG_of {g : Graph} {ats : List Int} (h : WF g) (ha : ∀ a ∈ ats, 0 ≤ a ∧ a < g.length) : errG g ats = 0 := by
  unfold errG
  rw [if_pos (checkG_ok.2 h)]
  have : ats.any (outB g.length) = false := by
    rw [List.any_eq_false]
    intro a hm
    have := hasB_iff.2 (ha a hm)
    simp [outB, this]
  rw [this]; rfl
theorem classesG_length (g : Graph) (h : WF g) : (classesG g).length = g.length := (classesN_facts h.abs).1.len
/-- are two types the same? -/
def sameG (g : Graph) (a b : Nat) : Bool := decide ((classesG g).getD a 0 = (classesG g).getD b 0)
def equalG (g : Graph) (a b : Int) : Bool := if errG g [a, b] = 0 then sameG g a.toNat b.toNat else false
def wordG (g : Graph) (a : Int) : Bool := if errG g [a] = 0 then inB (getT g a.toNat).kind 1 3 else false
def classesR (g : Graph) : List Int := if errG g [] = 0 then (classesG g).map fun (n : Nat) => (n : Int) else []

set_option maxRecDepth 100000 in
set_option maxHeartbeats 4000000 in
theorem equal_any (w : World) (gv : Value) (g : Graph) (a b : Int) (hg : Sl tyE w gv g) (hT : Tidy g) (hG : Glob w) :
    Calls Tryz.prog 20 #[gv, .int .i64 a, .int .i64 b] w (Ret w (.tuple #[.bool (equalG g a b), .int .i64 (errG g [a, b])])) := by
  have hop := opened_any (w.alloc (.cells #[.int .i64 a, .int .i64 b] 3)) gv _ g [a, b] (hg.mono ((Ext.refl w).alloc _)) hT (hG.mono ((Ext.refl w).alloc _)) (lit_ints w [a, b] 2 rfl) (by simp)
  have hcl := fun (w' : World) (hx : Ext w w') (hW : WF g) => classes_any w' gv g (hg.mono hx) hT hW
  have hn := hT.len
  obtain ⟨A, cap, rfl⟩ := hg.len
  unfold equalG
  by_cases h0 : errG g [a, b] = 0
  · rw [if_pos h0]
    rw [h0] at hop ⊢
    obtain ⟨hW, hab⟩ := errG_zero h0
    obtain ⟨a0, a1⟩ := hab a (by simp)
    obtain ⟨b0, b1⟩ := hab b (by simp)
    obtain ⟨i, rfl⟩ := Int.eq_ofNat_of_zero_le a0
    obtain ⟨j, rfl⟩ := Int.eq_ofNat_of_zero_le b0
    rw [Int.toNat_natCast, Int.toNat_natCast]
    have hcl := fun w' hx => hcl w' hx hW
    have hln := classesG_length g hW
    have hb : ((((classesG g).getD i 0 : Nat) : Int) == (((classesG g).getD j 0 : Nat) : Int)) = sameG g i j := by
      unfold sameG; rw [Bool.eq_iff_iff, beq_iff_eq, decide_eq_true_eq]; omega
    have Hop := Lib.hid hop
    have Hcl := Lib.hid hcl
    have Hb := Lib.hid hb
    have Hln := Lib.hid hln
    clear hop hcl hg hG hT h0 hab hW hb hln
    go_enter Tryz.func20, Tryz.ntmps20
    go_wp2_with fail
    refine Hop.out.mono ?_
    rintro e w1 ⟨rfl, hx1⟩
    have Hx1 := Lib.hid (((Ext.refl w).alloc (.cells #[.int .i64 i, .int .i64 j] 3)).trans hx1)
    clear hx1
    go_wp2_with fail
    refine (Hcl.out _ (Hx1.out.alloc _)).mono ?_
    rintro e w2 ⟨v, rfl, hv, hx2⟩
    obtain ⟨Av, cv, rfl, hs⟩ := Sl.nat hv.any
    obtain ⟨bb, off, rfl, c1⟩ := hs i (by rw [Hln.out]; omega)
    obtain ⟨bb', off', e2, c2⟩ := hs j (by rw [Hln.out]; omega)
    simp only [Option.some.injEq, Addr.mk.injEq, and_true] at e2
    obtain ⟨rfl, rfl⟩ := e2
    have hb := Hb.out
    have Hx2 := Lib.hid ((Hx1.out.alloc _).trans hx2)
    generalize (classesG g).getD i 0 = ci at c1 hb
    generalize (classesG g).getD j 0 = cj at c2 hb
    rw [Hln.out]
    clear hs hv hx2
    go_wp2_with fail
    go_quiet (fail)
    go_wp2_with fail
    go_ret2
    exact ⟨rfl, Hx2.out.drewN _⟩
  · rw [if_neg h0]
    have hne : (errG g [a, b] != 0) = true := by simpa using h0
    generalize errG g [a, b] = er at hop hne ⊢
    have Hop := Lib.hid hop
    clear hop hcl hg hG hT h0
    go_enter Tryz.func20, Tryz.ntmps20
    go_wp2_with fail
    refine Hop.out.mono ?_
    rintro e w1 ⟨rfl, hx1⟩
    go_wp2_with fail
    go_ret2
    exact ⟨rfl, (((Ext.refl w).alloc _).trans hx1).alloc _⟩

set_option maxRecDepth 100000 in
set_option maxHeartbeats 4000000 in
theorem word_any (w : World) (gv : Value) (g : Graph) (a : Int) (hg : Sl tyE w gv g) (hT : Tidy g) (hG : Glob w) :
    Calls Tryz.prog 25 #[gv, .int .i64 a] w (Ret w (.tuple #[.bool (wordG g a), .int .i64 (errG g [a])])) := by
  have hop := opened_any (w.alloc (.cells #[.int .i64 a] 3)) gv _ g [a] (hg.mono ((Ext.refl w).alloc _)) hT (hG.mono ((Ext.refl w).alloc _)) (lit_ints w [a] 1 rfl) (by simp)
  have hn := hT.len
  obtain ⟨A, cap, rfl, hs⟩ := hg.ty
  unfold wordG
  by_cases h0 : errG g [a] = 0
  · rw [if_pos h0]
    rw [h0] at hop ⊢
    obtain ⟨hW, hab⟩ := errG_zero h0
    obtain ⟨a0, a1⟩ := hab a (by simp)
    obtain ⟨i, rfl⟩ := Int.eq_ofNat_of_zero_le a0
    have hi : i < g.length := by omega
    rw [Int.toNat_natCast, getT_lt hi]
    obtain ⟨b, off, vp, vm, vo, rfl, hat, hof⟩ := hs i hi
    have c0 := hat.c0
    have hkr := (hT.ty _ (List.getElem_mem hi)).2
    have hwr : IntKind.i64.wrap g[i].kind = g[i].kind := IntWalk.i64_in _ (by omega)
    generalize g[i].kind = k at c0 hwr ⊢
    have Hop := Lib.hid hop
    clear hop hg hG hT h0 hab hW hat hof hs hkr
    go_enter Tryz.func25, Tryz.ntmps25
    go_wp2_with fail
    refine Hop.out.mono ?_
    rintro e w1 ⟨rfl, hx1⟩
    have Hx1 := Lib.hid (((Ext.refl w).alloc (.cells #[.int .i64 i] 3)).trans hx1)
    replace c0 := Hx1.out.cell c0
    have l0 := cell_lt c0
    clear hx1
    go_wp2_with fail
    refine (in_any _ _ _ _).mono ?_
    rintro e w2 ⟨rfl, rfl⟩
    go_wp2_with fail
    go_ret2
    exact ⟨rfl, Hx1.out.alloc _⟩
  · rw [if_neg h0]
    have hne : (errG g [a] != 0) = true := by simpa using h0
    generalize errG g [a] = er at hop hne ⊢
    have Hop := Lib.hid hop
    clear hop hg hG hT h0 hs
    go_enter Tryz.func25, Tryz.ntmps25
    go_wp2_with fail
    refine Hop.out.mono ?_
    rintro e w1 ⟨rfl, hx1⟩
    go_wp2_with fail
    go_ret2
    exact ⟨rfl, (((Ext.refl w).alloc _).trans hx1).alloc _⟩
end Go.Proofs.YtldnjnnhfeobdaaGreatDoor
