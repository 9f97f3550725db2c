/- Parts of the proof, joined: Contract: agree. Conditions: lengths below 2^20; Words and small contracts for classes: rows of ints that are written, the function values that look into them. Conditions: lengths below 2^20; Contract: reach: what ways lead to. Conditions: a right graph; a quiet function value for classes. -/
import Derived.Deep.RegionHeld3
import Derived.Deep.LoopGhost
import Derived.Laws.NewBlocks
import Derived.RangeFuncWrites
import Derived.Test.YtldnjnnhfeobdaaGreatDoorB4
import Derived.Test.YtldnjnnhfeobdaaGreatDoorB2
import Derived.Test.YtldnjnnhfeobdaaGreatDoorB3
namespace Go.Proofs.YtldnjnnhfeobdaaGreatDoor
set_option linter.all false
set_option linter.unusedSimpArgs false
set_option linter.unusedVariables false
open Go.RowKit Go.Shelf

theorem pred105 (w : World) (xs ys : List Part) : Pred2 partE w 105 #[] xs ys partEq :=
  ⟨enters_of Tryz.func105 (by kernel_rfl) rfl, by
    rintro x _ y _ w' A B hx ⟨cs, rfl, rfl⟩ ⟨ds, rfl, rfl⟩
    exact agree1_any w' x y⟩
set_option maxRecDepth 100000 in
theorem pred106 (w : World) (xs ys : List Method) (hx : ∀ m ∈ xs, MethodSmall m) (hy : ∀ m ∈ ys, MethodSmall m) : Pred2 methodE w 106 #[] xs ys sameMethodB :=
  ⟨enters_of Tryz.func106 (by kernel_rfl) rfl, by
    intro x mx y my w' A B hxt hA hB
    obtain ⟨cs, ⟨va, vr, rfl, ha, hr⟩, rfl⟩ := hA
    obtain ⟨ds, ⟨ua, ur, rfl, ga, gr⟩, rfl⟩ := hB
    obtain ⟨A1, c1, e1⟩ := Sl.len ha
    obtain ⟨A2, c2, e2⟩ := Sl.len hr
    obtain ⟨B1, d1, e3⟩ := Sl.len ga
    obtain ⟨B2, d2, e4⟩ := Sl.len gr
    subst e1 e2 e3 e4
    have h := sameMethods_any w' x y A1 B1 A2 B2 c1 d1 c2 d2 hr gr (hx x mx).2.2.2.1 (hy y my).2.2.2.1
    simpa only [pack, Array.append_empty] using h⟩
theorem alloc2_first (W : World) (o1 o2 : Obj) : ((W.alloc o1).alloc o2).drew.heap[W.heap.size]? = some o1 := by
  have h := (Below.heap_alloc (W.alloc o1) o2 W.heap.size (by simp)).trans (heap_alloc_self W o1)
  exact h
theorem alloc2_second (W : World) (o1 o2 : Obj) : ((W.alloc o1).alloc o2).drew.heap[W.heap.size + 1]? = some o2 := by
  have h := heap_alloc_self (W.alloc o1) o2
  rw [World.size_alloc] at h
  exact h
theorem plain_eq (x y : Ty) : plainB7 x.kind x.low x.high x.branded x.brand x.opaq 0 y.kind y.low y.high y.branded y.brand y.opaq 0 = plainEqB x y := by
  unfold plainB7 plainEqB; simp
theorem TyBox.cells {w : World} {b : Nat} {t : Ty} {vp vm vo : Value} (h : w.heap[b]? = some (.cells #[.int .u8 t.kind, .int .i64 t.low, .int .i64 t.high, .bool t.branded, .string t.brand, .string t.opaq, .int .i64 t.super, vp, vm, vo] 42 (0, 0))) : TyBox w b t vp vm vo := h

set_option maxRecDepth 100000 in
set_option maxHeartbeats 8000000 in
theorem agree_types (w : World) (A : Option Addr) (cap n i j : Nat) (x y : Ty) (xp xm xo yp ym yo : Value) (hi : i < n) (hj : j < n) (hn : n ≤ 1048576) (hx : TySmall x) (hy : TySmall y)
    (hox : TyOf w x xp xm xo) (hoy : TyOf w y yp ym yo) (hA : ∃ b off, A = some ⟨b, off, none⟩ ∧ TyAt w b (off + i * 10) x xp xm xo ∧ TyAt w b (off + j * 10) y yp ym yo) :
    Calls Tryz.prog 55 #[.agg #[.slice A n cap], .int .i64 i, .int .i64 j] w (Ret w (.bool (agreeT x y))) := by
  obtain ⟨b, off, rfl, hax, hay⟩ := hA
  have hparts := fun (w' : World) (h : Ext w w') => equalFunc_part 105 #[] w' _ _ x.parts y.parts partEq (hox.parts.mono h) (hoy.parts.mono h) hx.parts hy.parts (pred105 w' _ _)
  have hmeths := fun (w' : World) (h : Ext w w') => equalFunc_method 106 #[] w' _ _ x.methods y.methods sameMethodB (hox.methods.mono h) (hoy.methods.mono h) hx.methods hy.methods (pred106 w' _ _ hx.method hy.method)
  have hovers := fun (w' : World) (h : Ext w w') => equal_over w' _ _ x.overs y.overs (hox.overs.mono h) (hoy.overs.mono h) hx.overs hy.overs
  obtain ⟨A1, c1, e1⟩ := hox.parts.len
  obtain ⟨A2, c2, e2⟩ := hox.methods.len
  obtain ⟨A3, c3, e3⟩ := hox.overs.len
  obtain ⟨B1, p1, e4⟩ := hoy.parts.len
  obtain ⟨B2, p2, e5⟩ := hoy.methods.len
  obtain ⟨B3, p3, e6⟩ := hoy.overs.len
  subst e1 e2 e3 e4 e5 e6
  have heq := fun w' => eql_plain x.kind x.low x.high x.branded x.brand x.opaq 0 y.kind y.low y.high y.branded y.brand y.opaq 0 w'
  rw [plain_eq] at heq
  have hpx := fun w' => plainOf_any w' x A1 A2 A3 x.parts.length x.methods.length x.overs.length c1 c2 c3
  have hpy := fun w' => plainOf_any w' y B1 B2 B3 y.parts.length y.methods.length y.overs.length p1 p2 p3
  unfold plainV at hpx hpy
  unfold agreeT
  generalize plainEqB x y = q1 at heq ⊢
  generalize eqF partEq x.parts y.parts = q2 at hparts ⊢
  generalize eqF sameMethodB x.methods y.methods = q3 at hmeths ⊢
  generalize eqF overEq x.overs y.overs = q4 at hovers ⊢
  have Hparts := Lib.hid hparts
  have Hmeths := Lib.hid hmeths
  have Hovers := Lib.hid hovers
  have Heq := Lib.hid heq
  have Hpx := Lib.hid hpx
  have Hpy := Lib.hid hpy
  obtain ⟨d0, d1, d2, d3, d4, d5, d6, d7, d8, d9⟩ := hax
  obtain ⟨f0, f1, f2, f3, f4, f5, f6, f7, f8, f9⟩ := hay
  have hi0 : (0 : Int) ≤ (i : Int) := by omega
  have hi1 : (i : Int) < (n : Int) := by omega
  have hj0 : (0 : Int) ≤ (j : Int) := by omega
  have hj1 : (j : Int) < (n : Int) := by omega
  have hb := cell_lt d0
  clear hparts hmeths hovers heq hpx hpy hox hoy hx hy
  go_enter Tryz.func55, Tryz.ntmps55
  go_wp2_with fail
  go_cut [7, 8] (fun s7 s8 wx => Hid (Ext w wx) ∧ ∃ b7 b8, s7 = .pointer (some ⟨b7, 0, none⟩) ∧ s8 = .pointer (some ⟨b8, 0, none⟩) ∧ Hid (TyBox wx b7 x (.slice A1 x.parts.length c1) (.slice A2 x.methods.length c2) (.slice A3 x.overs.length c3)) ∧ Hid (TyBox wx b8 y (.slice B1 y.parts.length p1) (.slice B2 y.methods.length p2) (.slice B3 y.overs.length p3)))
  case first =>
    have hW := (Ext.refl w).alloc (.cells #[.slice (some ⟨b, off, none⟩) n cap] 77)
    have Hw := Lib.hid hW
    have hS : ∀ w', Ext (w.alloc (.cells #[.slice (some ⟨b, off, none⟩) n cap] 77)) w' → (w'.cell? ⟨w.heap.size, 0, none⟩ = some (.slice (some ⟨b, off, none⟩) n cap) ∧ w'.cell? ⟨b, off + i * 10, none⟩ = some (.int .u8 x.kind) ∧ w'.cell? ⟨b, off + i * 10 + 1, none⟩ = some (.int .i64 x.low) ∧ w'.cell? ⟨b, off + i * 10 + 2, none⟩ = some (.int .i64 x.high) ∧ w'.cell? ⟨b, off + i * 10 + 3, none⟩ = some (.bool x.branded) ∧ w'.cell? ⟨b, off + i * 10 + 4, none⟩ = some (.string x.brand) ∧ w'.cell? ⟨b, off + i * 10 + 5, none⟩ = some (.string x.opaq) ∧ w'.cell? ⟨b, off + i * 10 + 6, none⟩ = some (.int .i64 x.super) ∧ w'.cell? ⟨b, off + i * 10 + 7, none⟩ = some (.slice A1 x.parts.length c1) ∧ w'.cell? ⟨b, off + i * 10 + 8, none⟩ = some (.slice A2 x.methods.length c2) ∧ w'.cell? ⟨b, off + i * 10 + 9, none⟩ = some (.slice A3 x.overs.length c3) ∧ w'.cell? ⟨b, off + j * 10, none⟩ = some (.int .u8 y.kind) ∧ w'.cell? ⟨b, off + j * 10 + 1, none⟩ = some (.int .i64 y.low) ∧ w'.cell? ⟨b, off + j * 10 + 2, none⟩ = some (.int .i64 y.high) ∧ w'.cell? ⟨b, off + j * 10 + 3, none⟩ = some (.bool y.branded) ∧ w'.cell? ⟨b, off + j * 10 + 4, none⟩ = some (.string y.brand) ∧ w'.cell? ⟨b, off + j * 10 + 5, none⟩ = some (.string y.opaq) ∧ w'.cell? ⟨b, off + j * 10 + 6, none⟩ = some (.int .i64 y.super) ∧ w'.cell? ⟨b, off + j * 10 + 7, none⟩ = some (.slice B1 y.parts.length p1) ∧ w'.cell? ⟨b, off + j * 10 + 8, none⟩ = some (.slice B2 y.methods.length p2) ∧ w'.cell? ⟨b, off + j * 10 + 9, none⟩ = some (.slice B3 y.overs.length p3)) := fun w' h =>
      ⟨h.cell (by simp), h.cell (Hw.out.cell d0), h.cell (Hw.out.cell d1), h.cell (Hw.out.cell d2), h.cell (Hw.out.cell d3), h.cell (Hw.out.cell d4), h.cell (Hw.out.cell d5), h.cell (Hw.out.cell d6), h.cell (Hw.out.cell d7), h.cell (Hw.out.cell d8), h.cell (Hw.out.cell d9), h.cell (Hw.out.cell f0), h.cell (Hw.out.cell f1), h.cell (Hw.out.cell f2), h.cell (Hw.out.cell f3), h.cell (Hw.out.cell f4), h.cell (Hw.out.cell f5), h.cell (Hw.out.cell f6), h.cell (Hw.out.cell f7), h.cell (Hw.out.cell f8), h.cell (Hw.out.cell f9)⟩
    have HS := Lib.hid hS
    clear hW hS d0 f0 d1 f1 d2 f2 d3 f3 d4 f4 d5 f5 d6 f6 d7 f7 d8 f8 d9 f9
    go_region_held3 (fun w' => w'.cell? ⟨w.heap.size, 0, none⟩ = some (.slice (some ⟨b, off, none⟩) n cap) ∧ w'.cell? ⟨b, off + i * 10, none⟩ = some (.int .u8 x.kind) ∧ w'.cell? ⟨b, off + i * 10 + 1, none⟩ = some (.int .i64 x.low) ∧ w'.cell? ⟨b, off + i * 10 + 2, none⟩ = some (.int .i64 x.high) ∧ w'.cell? ⟨b, off + i * 10 + 3, none⟩ = some (.bool x.branded) ∧ w'.cell? ⟨b, off + i * 10 + 4, none⟩ = some (.string x.brand) ∧ w'.cell? ⟨b, off + i * 10 + 5, none⟩ = some (.string x.opaq) ∧ w'.cell? ⟨b, off + i * 10 + 6, none⟩ = some (.int .i64 x.super) ∧ w'.cell? ⟨b, off + i * 10 + 7, none⟩ = some (.slice A1 x.parts.length c1) ∧ w'.cell? ⟨b, off + i * 10 + 8, none⟩ = some (.slice A2 x.methods.length c2) ∧ w'.cell? ⟨b, off + i * 10 + 9, none⟩ = some (.slice A3 x.overs.length c3) ∧ w'.cell? ⟨b, off + j * 10, none⟩ = some (.int .u8 y.kind) ∧ w'.cell? ⟨b, off + j * 10 + 1, none⟩ = some (.int .i64 y.low) ∧ w'.cell? ⟨b, off + j * 10 + 2, none⟩ = some (.int .i64 y.high) ∧ w'.cell? ⟨b, off + j * 10 + 3, none⟩ = some (.bool y.branded) ∧ w'.cell? ⟨b, off + j * 10 + 4, none⟩ = some (.string y.brand) ∧ w'.cell? ⟨b, off + j * 10 + 5, none⟩ = some (.string y.opaq) ∧ w'.cell? ⟨b, off + j * 10 + 6, none⟩ = some (.int .i64 y.super) ∧ w'.cell? ⟨b, off + j * 10 + 7, none⟩ = some (.slice B1 y.parts.length p1) ∧ w'.cell? ⟨b, off + j * 10 + 8, none⟩ = some (.slice B2 y.methods.length p2) ∧ w'.cell? ⟨b, off + j * 10 + 9, none⟩ = some (.slice B3 y.overs.length p3)) (first | exact HS.out _ (Ext.refl _).drew | exact HS.out _ ((Ext.refl _).drew.alloc _) | exact HS.out _ (((Ext.refl _).drew.alloc _).alloc _)) (fail)
    · go_wp2_with fail
      go_meet
      refine ⟨Lib.hid ((Hw.out.alloc _).alloc _).drew, _, _, rfl, rfl, ?_, ?_⟩
      · have h := alloc2_first (w.alloc (.cells #[.slice (some ⟨b, off, none⟩) n cap] 77)) (.cells #[.int .u8 x.kind, .int .i64 x.low, .int .i64 x.high, .bool x.branded, .string x.brand, .string x.opaq, .int .i64 x.super, .slice A1 x.parts.length c1, .slice A2 x.methods.length c2, .slice A3 x.overs.length c3] 42) (.cells #[.int .u8 y.kind, .int .i64 y.low, .int .i64 y.high, .bool y.branded, .string y.brand, .string y.opaq, .int .i64 y.super, .slice B1 y.parts.length p1, .slice B2 y.methods.length p2, .slice B3 y.overs.length p3] 42)
        rw [World.size_alloc] at h
        exact h
      · have h := alloc2_second (w.alloc (.cells #[.slice (some ⟨b, off, none⟩) n cap] 77)) (.cells #[.int .u8 x.kind, .int .i64 x.low, .int .i64 x.high, .bool x.branded, .string x.brand, .string x.opaq, .int .i64 x.super, .slice A1 x.parts.length c1, .slice A2 x.methods.length c2, .slice A3 x.overs.length c3] 42) (.cells #[.int .u8 y.kind, .int .i64 y.low, .int .i64 y.high, .bool y.branded, .string y.brand, .string y.opaq, .int .i64 y.super, .slice B1 y.parts.length p1, .slice B2 y.methods.length p2, .slice B3 y.overs.length p3] 42)
        rw [World.size_alloc] at h
        exact h
    · go_wp2_with fail
      go_meet
      refine ⟨Lib.hid ((Hw.out.alloc _).alloc _).drew, _, _, rfl, rfl, ?_, ?_⟩
      · have h := alloc2_second (w.alloc (.cells #[.slice (some ⟨b, off, none⟩) n cap] 77)) (.cells #[.int .u8 y.kind, .int .i64 y.low, .int .i64 y.high, .bool y.branded, .string y.brand, .string y.opaq, .int .i64 y.super, .slice B1 y.parts.length p1, .slice B2 y.methods.length p2, .slice B3 y.overs.length p3] 42) (.cells #[.int .u8 x.kind, .int .i64 x.low, .int .i64 x.high, .bool x.branded, .string x.brand, .string x.opaq, .int .i64 x.super, .slice A1 x.parts.length c1, .slice A2 x.methods.length c2, .slice A3 x.overs.length c3] 42)
        rw [World.size_alloc] at h
        exact h
      · have h := alloc2_first (w.alloc (.cells #[.slice (some ⟨b, off, none⟩) n cap] 77)) (.cells #[.int .u8 y.kind, .int .i64 y.low, .int .i64 y.high, .bool y.branded, .string y.brand, .string y.opaq, .int .i64 y.super, .slice B1 y.parts.length p1, .slice B2 y.methods.length p2, .slice B3 y.overs.length p3] 42) (.cells #[.int .u8 x.kind, .int .i64 x.low, .int .i64 x.high, .bool x.branded, .string x.brand, .string x.opaq, .int .i64 x.super, .slice A1 x.parts.length c1, .slice A2 x.methods.length c2, .slice A3 x.overs.length c3] 42)
        rw [World.size_alloc] at h
        exact h
  case rest =>
    clear d0 d1 d2 d3 d4 d5 d6 d7 d8 d9 f0 f1 f2 f3 f4 f5 f6 f7 f8 f9 hb
    obtain ⟨Hx, b7, b8, rfl, rfl, Hb7, Hb8⟩ := hcut
    obtain ⟨d0, d1, d2, d3, d4, d5, d6, d7, d8, d9⟩ := Hb7.out.at
    obtain ⟨f0, f1, f2, f3, f4, f5, f6, f7, f8, f9⟩ := Hb8.out.at
    simp only [Nat.zero_add] at d0 d1 d2 d3 d4 d5 d6 d7 d8 d9 f0 f1 f2 f3 f4 f5 f6 f7 f8 f9
    go_wp2_with fail
    refine (Hparts.out _ Hx.out).mono ?_
    rintro e w1 ⟨rfl, hx1⟩
    replace Hx := Lib.hid (Hx.out.trans hx1)
    replace Hb7 := Lib.hid (Hb7.out.ext hx1)
    replace Hb8 := Lib.hid (Hb8.out.ext hx1)
    clear d0 d1 d2 d3 d4 d5 d6 d7 d8 d9 f0 f1 f2 f3 f4 f5 f6 f7 f8 f9 hx1
    obtain ⟨d0, d1, d2, d3, d4, d5, d6, d7, d8, d9⟩ := Hb7.out.at
    obtain ⟨f0, f1, f2, f3, f4, f5, f6, f7, f8, f9⟩ := Hb8.out.at
    simp only [Nat.zero_add] at d0 d1 d2 d3 d4 d5 d6 d7 d8 d9 f0 f1 f2 f3 f4 f5 f6 f7 f8 f9
    have g109 := fun x y xs ys w => guard109 .eql x y xs ys w
    have heq := Heq.out
    cases q1
    · go_wp2_with fail
      refine wp_region_X (by kernel_rfl) (by kernel_rfl) (fun w3 => Ext w1 w3) ((Ext.refl _).drew) ?_
      refine X_want rfl ?_
      refine X_val (v := ?_) (fun w1 hC => ?_) ?_
      rotate_left
      · have q_d0 := hC.cell d0
        have q_d1 := hC.cell d1
        have q_d2 := hC.cell d2
        have q_d3 := hC.cell d3
        have q_d4 := hC.cell d4
        have q_d5 := hC.cell d5
        have q_d6 := hC.cell d6
        have q_d7 := hC.cell d7
        have q_d8 := hC.cell d8
        have q_d9 := hC.cell d9
        have q_f0 := hC.cell f0
        have q_f1 := hC.cell f1
        have q_f2 := hC.cell f2
        have q_f3 := hC.cell f3
        have q_f4 := hC.cell f4
        have q_f5 := hC.cell f5
        have q_f6 := hC.cell f6
        have q_f7 := hC.cell f7
        have q_f8 := hC.cell f8
        have q_f9 := hC.cell f9
        go_simp
        (first | done | exact rfl)
      simp only [Act.put, List.setIfInBounds_toArray, List.set_cons_zero, List.set_cons_succ]
      refine X_want rfl ?_
      refine X_call (v := .agg #[.int .u8 x.kind, .int .i64 x.low, .int .i64 x.high, .bool x.branded, .string x.brand, .string x.opaq, .int .i64 0]) (f := 78) (args := #[.agg #[.int .u8 x.kind, .int .i64 x.low, .int .i64 x.high, .bool x.branded, .string x.brand, .string x.opaq, .int .i64 x.super, .slice A1 x.parts.length c1, .slice A2 x.methods.length c2, .slice A3 x.overs.length c3]]) (fun w1 => ?_) (fun w1 hC => (Hpx.out w1).mono fun e w2 ⟨he, hx⟩ => ⟨he, hC.trans hx⟩) ?_
      · go_simp
      simp only [Act.put, List.setIfInBounds_toArray, List.set_cons_zero, List.set_cons_succ]
      refine X_want rfl ?_
      refine X_val (v := ?_) (fun w1 hC => ?_) ?_
      rotate_left
      · have q_d0 := hC.cell d0
        have q_d1 := hC.cell d1
        have q_d2 := hC.cell d2
        have q_d3 := hC.cell d3
        have q_d4 := hC.cell d4
        have q_d5 := hC.cell d5
        have q_d6 := hC.cell d6
        have q_d7 := hC.cell d7
        have q_d8 := hC.cell d8
        have q_d9 := hC.cell d9
        have q_f0 := hC.cell f0
        have q_f1 := hC.cell f1
        have q_f2 := hC.cell f2
        have q_f3 := hC.cell f3
        have q_f4 := hC.cell f4
        have q_f5 := hC.cell f5
        have q_f6 := hC.cell f6
        have q_f7 := hC.cell f7
        have q_f8 := hC.cell f8
        have q_f9 := hC.cell f9
        go_simp
        (first | done | exact rfl)
      simp only [Act.put, List.setIfInBounds_toArray, List.set_cons_zero, List.set_cons_succ]
      refine X_want rfl ?_
      refine X_call (v := .agg #[.int .u8 y.kind, .int .i64 y.low, .int .i64 y.high, .bool y.branded, .string y.brand, .string y.opaq, .int .i64 0]) (f := 78) (args := #[.agg #[.int .u8 y.kind, .int .i64 y.low, .int .i64 y.high, .bool y.branded, .string y.brand, .string y.opaq, .int .i64 y.super, .slice B1 y.parts.length p1, .slice B2 y.methods.length p2, .slice B3 y.overs.length p3]]) (fun w1 => ?_) (fun w1 hC => (Hpy.out w1).mono fun e w2 ⟨he, hx⟩ => ⟨he, hC.trans hx⟩) ?_
      · go_simp
      simp only [Act.put, List.setIfInBounds_toArray, List.set_cons_zero, List.set_cons_succ]
      refine X_want rfl ?_
      refine X_val (v := ?_) (fun w1 hC => ?_) ?_
      rotate_left
      · go_simp
        (first | done | exact rfl)
      simp only [Act.put, List.setIfInBounds_toArray, List.set_cons_zero, List.set_cons_succ]
      refine X_want rfl ?_
      refine X_val (v := ?_) (fun w1 hC => ?_) ?_
      rotate_left
      · go_simp
        (first | done | exact rfl)
      simp only [Act.put, List.setIfInBounds_toArray, List.set_cons_zero, List.set_cons_succ]
      refine X_skip rfl ?_
      simp only [Act.put, List.setIfInBounds_toArray, List.set_cons_zero, List.set_cons_succ]
      refine X_want rfl ?_
      refine X_val (v := ?_) (fun w1 hC => ?_) ?_
      rotate_left
      · go_simp
        (first | done | exact rfl)
      simp only [Act.put, List.setIfInBounds_toArray, List.set_cons_zero, List.set_cons_succ]
      refine X_want rfl ?_
      refine X_val (v := ?_) (fun w1 hC => ?_) ?_
      rotate_left
      · go_simp
        (first | done | exact rfl)
      simp only [Act.put, List.setIfInBounds_toArray, List.set_cons_zero, List.set_cons_succ]
      refine X_skip rfl ?_
      simp only [Act.put, List.setIfInBounds_toArray, List.set_cons_zero, List.set_cons_succ]
      refine X_skip rfl ?_
      simp only [Act.put, List.setIfInBounds_toArray, List.set_cons_zero, List.set_cons_succ]
      refine X_skip rfl ?_
      simp only [Act.put, List.setIfInBounds_toArray, List.set_cons_zero, List.set_cons_succ]
      refine X_skip rfl ?_
      simp only [Act.put, List.setIfInBounds_toArray, List.set_cons_zero, List.set_cons_succ]
      refine X_skip rfl ?_
      simp only [Act.put, List.setIfInBounds_toArray, List.set_cons_zero, List.set_cons_succ]
      refine X_want rfl ?_
      refine X_val (v := ?_) (fun w1 hC => ?_) ?_
      rotate_left
      · go_simp
        (first | done | exact rfl)
      simp only [Act.put, List.setIfInBounds_toArray, List.set_cons_zero, List.set_cons_succ]
      refine X_want rfl ?_
      refine X_val (v := ?_) (fun w1 hC => ?_) ?_
      rotate_left
      · go_simp
        (first | done | exact rfl)
      simp only [Act.put, List.setIfInBounds_toArray, List.set_cons_zero, List.set_cons_succ]
      refine X_skip rfl ?_
      simp only [Act.put, List.setIfInBounds_toArray, List.set_cons_zero, List.set_cons_succ]
      refine X_skip rfl ?_
      simp only [Act.put, List.setIfInBounds_toArray, List.set_cons_zero, List.set_cons_succ]
      refine X_skip rfl ?_
      simp only [Act.put, List.setIfInBounds_toArray, List.set_cons_zero, List.set_cons_succ]
      refine X_skip rfl ?_
      simp only [Act.put, List.setIfInBounds_toArray, List.set_cons_zero, List.set_cons_succ]
      refine X_skip rfl ?_
      simp only [Act.put, List.setIfInBounds_toArray, List.set_cons_zero, List.set_cons_succ]
      refine X_want rfl ?_
      refine X_val (v := ?_) (fun w1 hC => ?_) ?_
      rotate_left
      · go_simp
        (first | done | exact rfl)
      simp only [Act.put, List.setIfInBounds_toArray, List.set_cons_zero, List.set_cons_succ]
      refine X_want rfl ?_
      refine X_val (v := ?_) (fun w1 hC => ?_) ?_
      rotate_left
      · go_simp
        (first | done | exact rfl)
      simp only [Act.put, List.setIfInBounds_toArray, List.set_cons_zero, List.set_cons_succ]
      refine wpQuiet_nil ?_
      intro w3 hx3
      go_wp2_with fail
      go_ret
      exact ⟨by first | rfl | simp, Hx.out.trans hx3⟩
    · cases q2
      · go_wp2_with fail
        refine wp_region_X (by kernel_rfl) (by kernel_rfl) (fun w3 => Ext w1 w3) ((Ext.refl _).drew) ?_
        refine X_want rfl ?_
        refine X_val (v := ?_) (fun w1 hC => ?_) ?_
        rotate_left
        · have q_d0 := hC.cell d0
          have q_d1 := hC.cell d1
          have q_d2 := hC.cell d2
          have q_d3 := hC.cell d3
          have q_d4 := hC.cell d4
          have q_d5 := hC.cell d5
          have q_d6 := hC.cell d6
          have q_d7 := hC.cell d7
          have q_d8 := hC.cell d8
          have q_d9 := hC.cell d9
          have q_f0 := hC.cell f0
          have q_f1 := hC.cell f1
          have q_f2 := hC.cell f2
          have q_f3 := hC.cell f3
          have q_f4 := hC.cell f4
          have q_f5 := hC.cell f5
          have q_f6 := hC.cell f6
          have q_f7 := hC.cell f7
          have q_f8 := hC.cell f8
          have q_f9 := hC.cell f9
          go_simp
          (first | done | exact rfl)
        simp only [Act.put, List.setIfInBounds_toArray, List.set_cons_zero, List.set_cons_succ]
        refine X_want rfl ?_
        refine X_call (v := .agg #[.int .u8 x.kind, .int .i64 x.low, .int .i64 x.high, .bool x.branded, .string x.brand, .string x.opaq, .int .i64 0]) (f := 78) (args := #[.agg #[.int .u8 x.kind, .int .i64 x.low, .int .i64 x.high, .bool x.branded, .string x.brand, .string x.opaq, .int .i64 x.super, .slice A1 x.parts.length c1, .slice A2 x.methods.length c2, .slice A3 x.overs.length c3]]) (fun w1 => ?_) (fun w1 hC => (Hpx.out w1).mono fun e w2 ⟨he, hx⟩ => ⟨he, hC.trans hx⟩) ?_
        · go_simp
        simp only [Act.put, List.setIfInBounds_toArray, List.set_cons_zero, List.set_cons_succ]
        refine X_want rfl ?_
        refine X_val (v := ?_) (fun w1 hC => ?_) ?_
        rotate_left
        · have q_d0 := hC.cell d0
          have q_d1 := hC.cell d1
          have q_d2 := hC.cell d2
          have q_d3 := hC.cell d3
          have q_d4 := hC.cell d4
          have q_d5 := hC.cell d5
          have q_d6 := hC.cell d6
          have q_d7 := hC.cell d7
          have q_d8 := hC.cell d8
          have q_d9 := hC.cell d9
          have q_f0 := hC.cell f0
          have q_f1 := hC.cell f1
          have q_f2 := hC.cell f2
          have q_f3 := hC.cell f3
          have q_f4 := hC.cell f4
          have q_f5 := hC.cell f5
          have q_f6 := hC.cell f6
          have q_f7 := hC.cell f7
          have q_f8 := hC.cell f8
          have q_f9 := hC.cell f9
          go_simp
          (first | done | exact rfl)
        simp only [Act.put, List.setIfInBounds_toArray, List.set_cons_zero, List.set_cons_succ]
        refine X_want rfl ?_
        refine X_call (v := .agg #[.int .u8 y.kind, .int .i64 y.low, .int .i64 y.high, .bool y.branded, .string y.brand, .string y.opaq, .int .i64 0]) (f := 78) (args := #[.agg #[.int .u8 y.kind, .int .i64 y.low, .int .i64 y.high, .bool y.branded, .string y.brand, .string y.opaq, .int .i64 y.super, .slice B1 y.parts.length p1, .slice B2 y.methods.length p2, .slice B3 y.overs.length p3]]) (fun w1 => ?_) (fun w1 hC => (Hpy.out w1).mono fun e w2 ⟨he, hx⟩ => ⟨he, hC.trans hx⟩) ?_
        · go_simp
        simp only [Act.put, List.setIfInBounds_toArray, List.set_cons_zero, List.set_cons_succ]
        refine X_want rfl ?_
        refine X_val (v := ?_) (fun w1 hC => ?_) ?_
        rotate_left
        · go_simp
          (first | done | exact rfl)
        simp only [Act.put, List.setIfInBounds_toArray, List.set_cons_zero, List.set_cons_succ]
        refine X_want rfl ?_
        refine X_val (v := ?_) (fun w1 hC => ?_) ?_
        rotate_left
        · go_simp
          (first | done | exact rfl)
        simp only [Act.put, List.setIfInBounds_toArray, List.set_cons_zero, List.set_cons_succ]
        refine X_want rfl ?_
        refine X_val (v := ?_) (fun w1 hC => ?_) ?_
        rotate_left
        · go_simp
          (first | done | exact rfl)
        simp only [Act.put, List.setIfInBounds_toArray, List.set_cons_zero, List.set_cons_succ]
        refine X_want rfl ?_
        refine X_val (v := ?_) (fun w1 hC => ?_) ?_
        rotate_left
        · go_simp
          (first | done | exact rfl)
        simp only [Act.put, List.setIfInBounds_toArray, List.set_cons_zero, List.set_cons_succ]
        refine X_want rfl ?_
        refine X_val (v := ?_) (fun w1 hC => ?_) ?_
        rotate_left
        · go_simp
          (first | done | exact rfl)
        simp only [Act.put, List.setIfInBounds_toArray, List.set_cons_zero, List.set_cons_succ]
        refine X_skip rfl ?_
        simp only [Act.put, List.setIfInBounds_toArray, List.set_cons_zero, List.set_cons_succ]
        refine X_skip rfl ?_
        simp only [Act.put, List.setIfInBounds_toArray, List.set_cons_zero, List.set_cons_succ]
        refine X_skip rfl ?_
        simp only [Act.put, List.setIfInBounds_toArray, List.set_cons_zero, List.set_cons_succ]
        refine X_skip rfl ?_
        simp only [Act.put, List.setIfInBounds_toArray, List.set_cons_zero, List.set_cons_succ]
        refine X_skip rfl ?_
        simp only [Act.put, List.setIfInBounds_toArray, List.set_cons_zero, List.set_cons_succ]
        refine X_want rfl ?_
        refine X_val (v := ?_) (fun w1 hC => ?_) ?_
        rotate_left
        · go_simp
          (first | done | exact rfl)
        simp only [Act.put, List.setIfInBounds_toArray, List.set_cons_zero, List.set_cons_succ]
        refine X_want rfl ?_
        refine X_val (v := ?_) (fun w1 hC => ?_) ?_
        rotate_left
        · go_simp
          (first | done | exact rfl)
        simp only [Act.put, List.setIfInBounds_toArray, List.set_cons_zero, List.set_cons_succ]
        refine X_skip rfl ?_
        simp only [Act.put, List.setIfInBounds_toArray, List.set_cons_zero, List.set_cons_succ]
        refine X_skip rfl ?_
        simp only [Act.put, List.setIfInBounds_toArray, List.set_cons_zero, List.set_cons_succ]
        refine X_skip rfl ?_
        simp only [Act.put, List.setIfInBounds_toArray, List.set_cons_zero, List.set_cons_succ]
        refine X_skip rfl ?_
        simp only [Act.put, List.setIfInBounds_toArray, List.set_cons_zero, List.set_cons_succ]
        refine X_skip rfl ?_
        simp only [Act.put, List.setIfInBounds_toArray, List.set_cons_zero, List.set_cons_succ]
        refine X_want rfl ?_
        refine X_val (v := ?_) (fun w1 hC => ?_) ?_
        rotate_left
        · go_simp
          (first | done | exact rfl)
        simp only [Act.put, List.setIfInBounds_toArray, List.set_cons_zero, List.set_cons_succ]
        refine X_want rfl ?_
        refine X_val (v := ?_) (fun w1 hC => ?_) ?_
        rotate_left
        · go_simp
          (first | done | exact rfl)
        simp only [Act.put, List.setIfInBounds_toArray, List.set_cons_zero, List.set_cons_succ]
        refine wpQuiet_nil ?_
        intro w3 hx3
        go_wp2_with fail
        go_ret
        exact ⟨by first | rfl | simp, Hx.out.trans hx3⟩
      · cases q3
        · go_wp2_with fail
          refine wp_region_X (by kernel_rfl) (by kernel_rfl) (fun w3 => Ext w1 w3) ((Ext.refl _).drew) ?_
          refine X_want rfl ?_
          refine X_val (v := ?_) (fun w1 hC => ?_) ?_
          rotate_left
          · have q_d0 := hC.cell d0
            have q_d1 := hC.cell d1
            have q_d2 := hC.cell d2
            have q_d3 := hC.cell d3
            have q_d4 := hC.cell d4
            have q_d5 := hC.cell d5
            have q_d6 := hC.cell d6
            have q_d7 := hC.cell d7
            have q_d8 := hC.cell d8
            have q_d9 := hC.cell d9
            have q_f0 := hC.cell f0
            have q_f1 := hC.cell f1
            have q_f2 := hC.cell f2
            have q_f3 := hC.cell f3
            have q_f4 := hC.cell f4
            have q_f5 := hC.cell f5
            have q_f6 := hC.cell f6
            have q_f7 := hC.cell f7
            have q_f8 := hC.cell f8
            have q_f9 := hC.cell f9
            go_simp
            (first | done | exact rfl)
          simp only [Act.put, List.setIfInBounds_toArray, List.set_cons_zero, List.set_cons_succ]
          refine X_want rfl ?_
          refine X_call (v := .agg #[.int .u8 x.kind, .int .i64 x.low, .int .i64 x.high, .bool x.branded, .string x.brand, .string x.opaq, .int .i64 0]) (f := 78) (args := #[.agg #[.int .u8 x.kind, .int .i64 x.low, .int .i64 x.high, .bool x.branded, .string x.brand, .string x.opaq, .int .i64 x.super, .slice A1 x.parts.length c1, .slice A2 x.methods.length c2, .slice A3 x.overs.length c3]]) (fun w1 => ?_) (fun w1 hC => (Hpx.out w1).mono fun e w2 ⟨he, hx⟩ => ⟨he, hC.trans hx⟩) ?_
          · go_simp
          simp only [Act.put, List.setIfInBounds_toArray, List.set_cons_zero, List.set_cons_succ]
          refine X_want rfl ?_
          refine X_val (v := ?_) (fun w1 hC => ?_) ?_
          rotate_left
          · have q_d0 := hC.cell d0
            have q_d1 := hC.cell d1
            have q_d2 := hC.cell d2
            have q_d3 := hC.cell d3
            have q_d4 := hC.cell d4
            have q_d5 := hC.cell d5
            have q_d6 := hC.cell d6
            have q_d7 := hC.cell d7
            have q_d8 := hC.cell d8
            have q_d9 := hC.cell d9
            have q_f0 := hC.cell f0
            have q_f1 := hC.cell f1
            have q_f2 := hC.cell f2
            have q_f3 := hC.cell f3
            have q_f4 := hC.cell f4
            have q_f5 := hC.cell f5
            have q_f6 := hC.cell f6
            have q_f7 := hC.cell f7
            have q_f8 := hC.cell f8
            have q_f9 := hC.cell f9
            go_simp
            (first | done | exact rfl)
          simp only [Act.put, List.setIfInBounds_toArray, List.set_cons_zero, List.set_cons_succ]
          refine X_want rfl ?_
          refine X_call (v := .agg #[.int .u8 y.kind, .int .i64 y.low, .int .i64 y.high, .bool y.branded, .string y.brand, .string y.opaq, .int .i64 0]) (f := 78) (args := #[.agg #[.int .u8 y.kind, .int .i64 y.low, .int .i64 y.high, .bool y.branded, .string y.brand, .string y.opaq, .int .i64 y.super, .slice B1 y.parts.length p1, .slice B2 y.methods.length p2, .slice B3 y.overs.length p3]]) (fun w1 => ?_) (fun w1 hC => (Hpy.out w1).mono fun e w2 ⟨he, hx⟩ => ⟨he, hC.trans hx⟩) ?_
          · go_simp
          simp only [Act.put, List.setIfInBounds_toArray, List.set_cons_zero, List.set_cons_succ]
          refine X_want rfl ?_
          refine X_val (v := ?_) (fun w1 hC => ?_) ?_
          rotate_left
          · go_simp
            (first | done | exact rfl)
          simp only [Act.put, List.setIfInBounds_toArray, List.set_cons_zero, List.set_cons_succ]
          refine X_want rfl ?_
          refine X_val (v := ?_) (fun w1 hC => ?_) ?_
          rotate_left
          · go_simp
            (first | done | exact rfl)
          simp only [Act.put, List.setIfInBounds_toArray, List.set_cons_zero, List.set_cons_succ]
          refine X_want rfl ?_
          refine X_val (v := ?_) (fun w1 hC => ?_) ?_
          rotate_left
          · go_simp
            (first | done | exact rfl)
          simp only [Act.put, List.setIfInBounds_toArray, List.set_cons_zero, List.set_cons_succ]
          refine X_want rfl ?_
          refine X_val (v := ?_) (fun w1 hC => ?_) ?_
          rotate_left
          · go_simp
            (first | done | exact rfl)
          simp only [Act.put, List.setIfInBounds_toArray, List.set_cons_zero, List.set_cons_succ]
          refine X_want rfl ?_
          refine X_val (v := ?_) (fun w1 hC => ?_) ?_
          rotate_left
          · go_simp
            (first | done | exact rfl)
          simp only [Act.put, List.setIfInBounds_toArray, List.set_cons_zero, List.set_cons_succ]
          refine X_want rfl ?_
          refine X_val (v := ?_) (fun w1 hC => ?_) ?_
          rotate_left
          · go_simp
            (first | done | exact rfl)
          simp only [Act.put, List.setIfInBounds_toArray, List.set_cons_zero, List.set_cons_succ]
          refine X_want rfl ?_
          refine X_val (v := ?_) (fun w1 hC => ?_) ?_
          rotate_left
          · have q_d0 := hC.cell d0
            have q_d1 := hC.cell d1
            have q_d2 := hC.cell d2
            have q_d3 := hC.cell d3
            have q_d4 := hC.cell d4
            have q_d5 := hC.cell d5
            have q_d6 := hC.cell d6
            have q_d7 := hC.cell d7
            have q_d8 := hC.cell d8
            have q_d9 := hC.cell d9
            have q_f0 := hC.cell f0
            have q_f1 := hC.cell f1
            have q_f2 := hC.cell f2
            have q_f3 := hC.cell f3
            have q_f4 := hC.cell f4
            have q_f5 := hC.cell f5
            have q_f6 := hC.cell f6
            have q_f7 := hC.cell f7
            have q_f8 := hC.cell f8
            have q_f9 := hC.cell f9
            go_simp
            (first | done | exact rfl)
          simp only [Act.put, List.setIfInBounds_toArray, List.set_cons_zero, List.set_cons_succ]
          refine X_want rfl ?_
          refine X_val (v := ?_) (fun w1 hC => ?_) ?_
          rotate_left
          · go_simp
            (first | done | exact rfl)
          simp only [Act.put, List.setIfInBounds_toArray, List.set_cons_zero, List.set_cons_succ]
          refine X_want rfl ?_
          refine X_val (v := ?_) (fun w1 hC => ?_) ?_
          rotate_left
          · have q_d0 := hC.cell d0
            have q_d1 := hC.cell d1
            have q_d2 := hC.cell d2
            have q_d3 := hC.cell d3
            have q_d4 := hC.cell d4
            have q_d5 := hC.cell d5
            have q_d6 := hC.cell d6
            have q_d7 := hC.cell d7
            have q_d8 := hC.cell d8
            have q_d9 := hC.cell d9
            have q_f0 := hC.cell f0
            have q_f1 := hC.cell f1
            have q_f2 := hC.cell f2
            have q_f3 := hC.cell f3
            have q_f4 := hC.cell f4
            have q_f5 := hC.cell f5
            have q_f6 := hC.cell f6
            have q_f7 := hC.cell f7
            have q_f8 := hC.cell f8
            have q_f9 := hC.cell f9
            go_simp
            (first | done | exact rfl)
          simp only [Act.put, List.setIfInBounds_toArray, List.set_cons_zero, List.set_cons_succ]
          refine X_want rfl ?_
          refine X_call (v := .bool false) (f := 83) (args := #[.slice A2 x.methods.length c2, .slice B2 y.methods.length p2, .func (.func 106) #[] #[]]) (fun w1 => ?_) (fun w1 hC => (Hmeths.out w1 (Hx.out.trans hC)).mono fun e w2 ⟨he, hx⟩ => ⟨he, hC.trans hx⟩) ?_
          · go_simp
          simp only [Act.put, List.setIfInBounds_toArray, List.set_cons_zero, List.set_cons_succ]
          refine X_want rfl ?_
          refine X_val (v := ?_) (fun w1 hC => ?_) ?_
          rotate_left
          · go_simp
            (first | done | exact rfl)
          simp only [Act.put, List.setIfInBounds_toArray, List.set_cons_zero, List.set_cons_succ]
          refine X_want rfl ?_
          refine X_val (v := ?_) (fun w1 hC => ?_) ?_
          rotate_left
          · go_simp
            (first | done | exact rfl)
          simp only [Act.put, List.setIfInBounds_toArray, List.set_cons_zero, List.set_cons_succ]
          refine X_skip rfl ?_
          simp only [Act.put, List.setIfInBounds_toArray, List.set_cons_zero, List.set_cons_succ]
          refine X_skip rfl ?_
          simp only [Act.put, List.setIfInBounds_toArray, List.set_cons_zero, List.set_cons_succ]
          refine X_skip rfl ?_
          simp only [Act.put, List.setIfInBounds_toArray, List.set_cons_zero, List.set_cons_succ]
          refine X_skip rfl ?_
          simp only [Act.put, List.setIfInBounds_toArray, List.set_cons_zero, List.set_cons_succ]
          refine X_skip rfl ?_
          simp only [Act.put, List.setIfInBounds_toArray, List.set_cons_zero, List.set_cons_succ]
          refine X_want rfl ?_
          refine X_val (v := ?_) (fun w1 hC => ?_) ?_
          rotate_left
          · go_simp
            (first | done | exact rfl)
          simp only [Act.put, List.setIfInBounds_toArray, List.set_cons_zero, List.set_cons_succ]
          refine X_want rfl ?_
          refine X_val (v := ?_) (fun w1 hC => ?_) ?_
          rotate_left
          · go_simp
            (first | done | exact rfl)
          simp only [Act.put, List.setIfInBounds_toArray, List.set_cons_zero, List.set_cons_succ]
          refine wpQuiet_nil ?_
          intro w3 hx3
          go_wp2_with fail
          go_ret
          exact ⟨by first | rfl | simp, Hx.out.trans hx3⟩
        · go_wp2_with fail
          refine wp_region_X (by kernel_rfl) (by kernel_rfl) (fun w3 => Ext w1 w3) ((Ext.refl _).drew) ?_
          refine X_want rfl ?_
          refine X_val (v := ?_) (fun w1 hC => ?_) ?_
          rotate_left
          · have q_d0 := hC.cell d0
            have q_d1 := hC.cell d1
            have q_d2 := hC.cell d2
            have q_d3 := hC.cell d3
            have q_d4 := hC.cell d4
            have q_d5 := hC.cell d5
            have q_d6 := hC.cell d6
            have q_d7 := hC.cell d7
            have q_d8 := hC.cell d8
            have q_d9 := hC.cell d9
            have q_f0 := hC.cell f0
            have q_f1 := hC.cell f1
            have q_f2 := hC.cell f2
            have q_f3 := hC.cell f3
            have q_f4 := hC.cell f4
            have q_f5 := hC.cell f5
            have q_f6 := hC.cell f6
            have q_f7 := hC.cell f7
            have q_f8 := hC.cell f8
            have q_f9 := hC.cell f9
            go_simp
            (first | done | exact rfl)
          simp only [Act.put, List.setIfInBounds_toArray, List.set_cons_zero, List.set_cons_succ]
          refine X_want rfl ?_
          refine X_call (v := .agg #[.int .u8 x.kind, .int .i64 x.low, .int .i64 x.high, .bool x.branded, .string x.brand, .string x.opaq, .int .i64 0]) (f := 78) (args := #[.agg #[.int .u8 x.kind, .int .i64 x.low, .int .i64 x.high, .bool x.branded, .string x.brand, .string x.opaq, .int .i64 x.super, .slice A1 x.parts.length c1, .slice A2 x.methods.length c2, .slice A3 x.overs.length c3]]) (fun w1 => ?_) (fun w1 hC => (Hpx.out w1).mono fun e w2 ⟨he, hx⟩ => ⟨he, hC.trans hx⟩) ?_
          · go_simp
          simp only [Act.put, List.setIfInBounds_toArray, List.set_cons_zero, List.set_cons_succ]
          refine X_want rfl ?_
          refine X_val (v := ?_) (fun w1 hC => ?_) ?_
          rotate_left
          · have q_d0 := hC.cell d0
            have q_d1 := hC.cell d1
            have q_d2 := hC.cell d2
            have q_d3 := hC.cell d3
            have q_d4 := hC.cell d4
            have q_d5 := hC.cell d5
            have q_d6 := hC.cell d6
            have q_d7 := hC.cell d7
            have q_d8 := hC.cell d8
            have q_d9 := hC.cell d9
            have q_f0 := hC.cell f0
            have q_f1 := hC.cell f1
            have q_f2 := hC.cell f2
            have q_f3 := hC.cell f3
            have q_f4 := hC.cell f4
            have q_f5 := hC.cell f5
            have q_f6 := hC.cell f6
            have q_f7 := hC.cell f7
            have q_f8 := hC.cell f8
            have q_f9 := hC.cell f9
            go_simp
            (first | done | exact rfl)
          simp only [Act.put, List.setIfInBounds_toArray, List.set_cons_zero, List.set_cons_succ]
          refine X_want rfl ?_
          refine X_call (v := .agg #[.int .u8 y.kind, .int .i64 y.low, .int .i64 y.high, .bool y.branded, .string y.brand, .string y.opaq, .int .i64 0]) (f := 78) (args := #[.agg #[.int .u8 y.kind, .int .i64 y.low, .int .i64 y.high, .bool y.branded, .string y.brand, .string y.opaq, .int .i64 y.super, .slice B1 y.parts.length p1, .slice B2 y.methods.length p2, .slice B3 y.overs.length p3]]) (fun w1 => ?_) (fun w1 hC => (Hpy.out w1).mono fun e w2 ⟨he, hx⟩ => ⟨he, hC.trans hx⟩) ?_
          · go_simp
          simp only [Act.put, List.setIfInBounds_toArray, List.set_cons_zero, List.set_cons_succ]
          refine X_want rfl ?_
          refine X_val (v := ?_) (fun w1 hC => ?_) ?_
          rotate_left
          · go_simp
            (first | done | exact rfl)
          simp only [Act.put, List.setIfInBounds_toArray, List.set_cons_zero, List.set_cons_succ]
          refine X_want rfl ?_
          refine X_val (v := ?_) (fun w1 hC => ?_) ?_
          rotate_left
          · go_simp
            (first | done | exact rfl)
          simp only [Act.put, List.setIfInBounds_toArray, List.set_cons_zero, List.set_cons_succ]
          refine X_want rfl ?_
          refine X_val (v := ?_) (fun w1 hC => ?_) ?_
          rotate_left
          · go_simp
            (first | done | exact rfl)
          simp only [Act.put, List.setIfInBounds_toArray, List.set_cons_zero, List.set_cons_succ]
          refine X_want rfl ?_
          refine X_val (v := ?_) (fun w1 hC => ?_) ?_
          rotate_left
          · go_simp
            (first | done | exact rfl)
          simp only [Act.put, List.setIfInBounds_toArray, List.set_cons_zero, List.set_cons_succ]
          refine X_want rfl ?_
          refine X_val (v := ?_) (fun w1 hC => ?_) ?_
          rotate_left
          · go_simp
            (first | done | exact rfl)
          simp only [Act.put, List.setIfInBounds_toArray, List.set_cons_zero, List.set_cons_succ]
          refine X_want rfl ?_
          refine X_val (v := ?_) (fun w1 hC => ?_) ?_
          rotate_left
          · go_simp
            (first | done | exact rfl)
          simp only [Act.put, List.setIfInBounds_toArray, List.set_cons_zero, List.set_cons_succ]
          refine X_want rfl ?_
          refine X_val (v := ?_) (fun w1 hC => ?_) ?_
          rotate_left
          · have q_d0 := hC.cell d0
            have q_d1 := hC.cell d1
            have q_d2 := hC.cell d2
            have q_d3 := hC.cell d3
            have q_d4 := hC.cell d4
            have q_d5 := hC.cell d5
            have q_d6 := hC.cell d6
            have q_d7 := hC.cell d7
            have q_d8 := hC.cell d8
            have q_d9 := hC.cell d9
            have q_f0 := hC.cell f0
            have q_f1 := hC.cell f1
            have q_f2 := hC.cell f2
            have q_f3 := hC.cell f3
            have q_f4 := hC.cell f4
            have q_f5 := hC.cell f5
            have q_f6 := hC.cell f6
            have q_f7 := hC.cell f7
            have q_f8 := hC.cell f8
            have q_f9 := hC.cell f9
            go_simp
            (first | done | exact rfl)
          simp only [Act.put, List.setIfInBounds_toArray, List.set_cons_zero, List.set_cons_succ]
          refine X_want rfl ?_
          refine X_val (v := ?_) (fun w1 hC => ?_) ?_
          rotate_left
          · go_simp
            (first | done | exact rfl)
          simp only [Act.put, List.setIfInBounds_toArray, List.set_cons_zero, List.set_cons_succ]
          refine X_want rfl ?_
          refine X_val (v := ?_) (fun w1 hC => ?_) ?_
          rotate_left
          · have q_d0 := hC.cell d0
            have q_d1 := hC.cell d1
            have q_d2 := hC.cell d2
            have q_d3 := hC.cell d3
            have q_d4 := hC.cell d4
            have q_d5 := hC.cell d5
            have q_d6 := hC.cell d6
            have q_d7 := hC.cell d7
            have q_d8 := hC.cell d8
            have q_d9 := hC.cell d9
            have q_f0 := hC.cell f0
            have q_f1 := hC.cell f1
            have q_f2 := hC.cell f2
            have q_f3 := hC.cell f3
            have q_f4 := hC.cell f4
            have q_f5 := hC.cell f5
            have q_f6 := hC.cell f6
            have q_f7 := hC.cell f7
            have q_f8 := hC.cell f8
            have q_f9 := hC.cell f9
            go_simp
            (first | done | exact rfl)
          simp only [Act.put, List.setIfInBounds_toArray, List.set_cons_zero, List.set_cons_succ]
          refine X_want rfl ?_
          refine X_call (v := .bool true) (f := 83) (args := #[.slice A2 x.methods.length c2, .slice B2 y.methods.length p2, .func (.func 106) #[] #[]]) (fun w1 => ?_) (fun w1 hC => (Hmeths.out w1 (Hx.out.trans hC)).mono fun e w2 ⟨he, hx⟩ => ⟨he, hC.trans hx⟩) ?_
          · go_simp
          simp only [Act.put, List.setIfInBounds_toArray, List.set_cons_zero, List.set_cons_succ]
          refine X_want rfl ?_
          refine X_val (v := ?_) (fun w1 hC => ?_) ?_
          rotate_left
          · go_simp
            (first | done | exact rfl)
          simp only [Act.put, List.setIfInBounds_toArray, List.set_cons_zero, List.set_cons_succ]
          refine X_want rfl ?_
          refine X_val (v := ?_) (fun w1 hC => ?_) ?_
          rotate_left
          · go_simp
            (first | done | exact rfl)
          simp only [Act.put, List.setIfInBounds_toArray, List.set_cons_zero, List.set_cons_succ]
          refine X_want rfl ?_
          refine X_val (v := ?_) (fun w1 hC => ?_) ?_
          rotate_left
          · go_simp
            (first | done | exact rfl)
          simp only [Act.put, List.setIfInBounds_toArray, List.set_cons_zero, List.set_cons_succ]
          refine X_want rfl ?_
          refine X_val (v := ?_) (fun w1 hC => ?_) ?_
          rotate_left
          · have q_d0 := hC.cell d0
            have q_d1 := hC.cell d1
            have q_d2 := hC.cell d2
            have q_d3 := hC.cell d3
            have q_d4 := hC.cell d4
            have q_d5 := hC.cell d5
            have q_d6 := hC.cell d6
            have q_d7 := hC.cell d7
            have q_d8 := hC.cell d8
            have q_d9 := hC.cell d9
            have q_f0 := hC.cell f0
            have q_f1 := hC.cell f1
            have q_f2 := hC.cell f2
            have q_f3 := hC.cell f3
            have q_f4 := hC.cell f4
            have q_f5 := hC.cell f5
            have q_f6 := hC.cell f6
            have q_f7 := hC.cell f7
            have q_f8 := hC.cell f8
            have q_f9 := hC.cell f9
            go_simp
            (first | done | exact rfl)
          simp only [Act.put, List.setIfInBounds_toArray, List.set_cons_zero, List.set_cons_succ]
          refine X_want rfl ?_
          refine X_val (v := ?_) (fun w1 hC => ?_) ?_
          rotate_left
          · go_simp
            (first | done | exact rfl)
          simp only [Act.put, List.setIfInBounds_toArray, List.set_cons_zero, List.set_cons_succ]
          refine X_want rfl ?_
          refine X_val (v := ?_) (fun w1 hC => ?_) ?_
          rotate_left
          · have q_d0 := hC.cell d0
            have q_d1 := hC.cell d1
            have q_d2 := hC.cell d2
            have q_d3 := hC.cell d3
            have q_d4 := hC.cell d4
            have q_d5 := hC.cell d5
            have q_d6 := hC.cell d6
            have q_d7 := hC.cell d7
            have q_d8 := hC.cell d8
            have q_d9 := hC.cell d9
            have q_f0 := hC.cell f0
            have q_f1 := hC.cell f1
            have q_f2 := hC.cell f2
            have q_f3 := hC.cell f3
            have q_f4 := hC.cell f4
            have q_f5 := hC.cell f5
            have q_f6 := hC.cell f6
            have q_f7 := hC.cell f7
            have q_f8 := hC.cell f8
            have q_f9 := hC.cell f9
            go_simp
            (first | done | exact rfl)
          simp only [Act.put, List.setIfInBounds_toArray, List.set_cons_zero, List.set_cons_succ]
          refine X_want rfl ?_
          refine X_call (v := .bool q4) (f := 84) (args := #[.slice A3 x.overs.length c3, .slice B3 y.overs.length p3]) (fun w1 => ?_) (fun w1 hC => (Hovers.out w1 (Hx.out.trans hC)).mono fun e w2 ⟨he, hx⟩ => ⟨he, hC.trans hx⟩) ?_
          · go_simp
          simp only [Act.put, List.setIfInBounds_toArray, List.set_cons_zero, List.set_cons_succ]
          refine X_want rfl ?_
          refine X_val (v := ?_) (fun w1 hC => ?_) ?_
          rotate_left
          · go_simp
            (first | done | exact rfl)
          simp only [Act.put, List.setIfInBounds_toArray, List.set_cons_zero, List.set_cons_succ]
          refine X_want rfl ?_
          refine X_val (v := ?_) (fun w1 hC => ?_) ?_
          rotate_left
          · go_simp
            (first | done | exact rfl)
          simp only [Act.put, List.setIfInBounds_toArray, List.set_cons_zero, List.set_cons_succ]
          refine wpQuiet_nil ?_
          intro w3 hx3
          go_wp2_with fail
          go_ret
          exact ⟨by first | rfl | simp, Hx.out.trans hx3⟩
end Go.Proofs.YtldnjnnhfeobdaaGreatDoor
/- Words and small contracts for classes: rows of ints that are written, the function values that look into them. Conditions: lengths below 2^20. -/
namespace Go.Proofs.YtldnjnnhfeobdaaGreatDoor
set_option linter.all false
set_option linter.unusedSimpArgs false
set_option linter.unusedVariables false
open Go.RowKit Go.Shelf

theorem agree_any (w : World) (gv : Value) (g : Graph) (i j : Nat) (hg : Sl tyE w gv g) (hT : Tidy g) (hi : i < g.length) (hj : j < g.length) :
    Calls Tryz.prog 55 #[.agg #[gv], .int .i64 i, .int .i64 j] w (Ret w (.bool (agN g i j))) := by
  obtain ⟨A, cap, rfl, hs⟩ := hg.ty
  obtain ⟨b, off, xp, xm, xo, hA, hax, hox⟩ := hs i hi
  obtain ⟨b', off', yp, ym, yo, hA', hay, hoy⟩ := hs j hj
  rw [hA] at hA'
  simp only [Option.some.injEq, Addr.mk.injEq, and_true] at hA'
  obtain ⟨rfl, rfl⟩ := hA'
  unfold agN
  rw [getT_lt hi, getT_lt hj]
  exact agree_types w A cap g.length i j _ _ _ _ _ _ _ _ hi hj hT.len (hT.ty _ (List.getElem_mem hi)).1 (hT.ty _ (List.getElem_mem hj)).1 hox hoy ⟨b, off, hA, hax, hay⟩

/-- block b is a row of ints -/
def IntRow (w : World) (b : Nat) (xs : List Nat) : Prop := w.heap[b]? = some (.cells (xs.map fun (n : Nat) => Value.int .i64 (n : Int)).toArray 3 (0, 0))
section
variable {w w' : World} {b : Nat} {xs : List Nat}
theorem IntRow.ext (h : IntRow w b xs) (hx : Ext w w') : IntRow w' b xs := hx.heap h
theorem IntRow.lt (h : IntRow w b xs) : b < w.heap.size := (Array.getElem?_eq_some_iff.1 h).1
theorem IntRow.cell (h : IntRow w b xs) (i : Nat) (hi : i < xs.length) : w.cell? ⟨b, i, none⟩ = some (.int .i64 (xs.getD i 0 : Nat)) := by
  refine heap_cell h i _ ?_
  simp [List.getD_eq_getElem?_getD, List.getElem?_eq_getElem hi]
theorem IntRow.frozen (h : IntRow w b xs) (i : Nat) : w.frozen? ⟨b, i, none⟩ = false := heap_frozen h i
theorem IntRow.set (h : IntRow w b xs) (i v : Nat) : IntRow (w.setCell ⟨b, i, none⟩ (.int .i64 (v : Int))) b (xs.set i v) := by
  have := heap_set h i (.int .i64 (v : Int))
  unfold IntRow
  rw [this]
  simp [List.map_set]
theorem IntRow.other (h : IntRow w b xs) {b' i : Nat} (v : Value) (hne : b ≠ b') : IntRow (w.setCell ⟨b', i, none⟩ v) b xs := by
  unfold IntRow
  rw [Below.heap_setCell _ _ _ _ hne]
  exact h
theorem IntRow.sl (h : IntRow w b xs) (cap : Nat) (hcap : xs.length ≤ cap) : Sl intE w (.slice (some ⟨b, 0, none⟩) xs.length cap) (xs.map fun (n : Nat) => (n : Int)) := by
  refine ⟨_, cap, by rw [List.length_map], fun i x hi => ⟨b, 0, [.int .i64 x], rfl, ⟨trivial, by rw [List.length_map]; exact hcap⟩, rfl, fun j u hj => ?_⟩⟩
  have hlt : i < xs.length := by simpa using (List.getElem?_eq_some_iff.1 hi).1
  cases j with
  | succ j => simp at hj
  | zero =>
    simp at hj
    subst hj
    have := h.cell i hlt
    simp only [intE, Nat.mul_one, Nat.zero_add, Nat.add_zero]
    rw [this]
    simp [List.getD_eq_getElem?_getD, List.getElem?_eq_getElem hlt] at hi ⊢
    exact hi
end
theorem Boxed.ext {w w' : World} {b : Nat} {t : TypeId} {v : Value} (h : Boxed w b t v) (hx : Ext w w') : Boxed w' b t v := hx.heap h
theorem Boxed.other' {w : World} {b b' i : Nat} {t : TypeId} {u : Value} (h : Boxed w b t u) (v : Value) (hne : b ≠ b') : Boxed (w.setCell ⟨b', i, none⟩ v) b t u := by
  unfold Boxed
  rw [Below.heap_setCell _ _ _ _ hne]
  exact h
theorem set_next (L : List Nat) (i n v : Nat) (hL : L.length = i) (hi : i < n) : (L ++ List.replicate (n - i) 0).set i v = L ++ [v] ++ List.replicate (n - (i + 1)) 0 := by
  subst hL
  rw [List.set_append_right _ _ (Nat.le_refl _), Nat.sub_self, show n - L.length = (n - (L.length + 1)) + 1 by omega, List.replicate_succ]
  simp
theorem getD_pre (L M : List Nat) (k : Nat) (hk : k < L.length) : (L ++ M).getD k 0 = L.getD k 0 := by
  simp only [List.getD_eq_getElem?_getD]; rw [List.getElem?_append_left hk]
theorem getD_zero (L : List Nat) (m k : Nat) (hk : L.length ≤ k) : (L ++ List.replicate m 0).getD k 0 = 0 := by
  simp only [List.getD_eq_getElem?_getD]
  rw [List.getElem?_append_right hk, List.getElem?_replicate]
  split <;> rfl

/-! ### the function values of classes -/
set_option maxRecDepth 100000 in
theorem classes1 (w : World) (bx Bc n i : Nat) (cs : List Nat) (hb : Boxed w bx 24 (.slice (some ⟨Bc, 0, none⟩) n n)) (hr : IntRow w Bc cs) (hl : cs.length = n) (hi : i < n) (hn : n ≤ 1048576) :
    Calls Tryz.prog 109 #[.int .i64 i, .pointer (some ⟨bx, 0, none⟩)] w (Ret w (.int .i64 (cs.getD i 0 : Nat))) := by
  have c0 := hb.cell
  have c1 := hr.cell i (by omega)
  have l0 := hb.lt
  have l1 := hr.lt
  have h0 : (0 : Int) ≤ (i : Int) := by omega
  have h1 : (i : Int) < (n : Int) := by omega
  clear hb hr hl
  go_enter Tryz.func109, Tryz.ntmps109
  go_wp2_with fail
  go_ret
  exact ⟨rfl, Ext.refl _⟩
set_option maxRecDepth 100000 in
theorem classes2 (w : World) (bx Bc n i : Nat) (cs : List Nat) (hb : Boxed w bx 24 (.slice (some ⟨Bc, 0, none⟩) n n)) (hr : IntRow w Bc cs) (hl : cs.length = n) (hi : i < n) (hn : n ≤ 1048576) :
    Calls Tryz.prog 110 #[.int .i64 i, .pointer (some ⟨bx, 0, none⟩)] w (Ret w (.int .i64 (cs.getD i 0 : Nat))) := by
  have c0 := hb.cell
  have c1 := hr.cell i (by omega)
  have l0 := hb.lt
  have l1 := hr.lt
  have h0 : (0 : Int) ≤ (i : Int) := by omega
  have h1 : (i : Int) < (n : Int) := by omega
  clear hb hr hl
  go_enter Tryz.func110, Tryz.ntmps110
  go_wp2_with fail
  go_ret
  exact ⟨rfl, Ext.refl _⟩
def lookN (cs : List Nat) (x : Int) : Int := (cs.getD x.toNat 0 : Nat)
theorem res_int {w : World} {s : Int} {f : Nat} {args : Array Value} (h : Calls Tryz.prog f args w (Ret w (.int .i64 s))) : Calls Tryz.prog f args w (RetP w (Res intE w s)) :=
  h.mono fun e w' ⟨he, hx⟩ => ⟨_, he, ⟨[.int .i64 s], rfl, rfl⟩, hx⟩
theorem map109 (w : World) (bx Bc n : Nat) (cs : List Nat) (xs : List Int) (hb : Boxed w bx 24 (.slice (some ⟨Bc, 0, none⟩) n n)) (hr : IntRow w Bc cs) (hl : cs.length = n) (hn : n ≤ 1048576) (hx : ∀ x ∈ xs, 0 ≤ x ∧ x < n) :
    MapP intE intE w 109 #[.pointer (some ⟨bx, 0, none⟩)] xs (lookN cs) :=
  ⟨enters_of Tryz.func109 (by kernel_rfl) rfl, by
    rintro x hxm w' A hxt ⟨_, rfl, rfl⟩
    obtain ⟨h0, h1⟩ := hx x hxm
    obtain ⟨i, rfl⟩ := Int.eq_ofNat_of_zero_le h0
    exact res_int (classes1 w' bx Bc n i cs (Boxed.ext hb hxt) (hr.ext hxt) hl (by omega) hn)⟩
theorem map110 (w : World) (bx Bc n : Nat) (cs : List Nat) (xs : List Int) (hb : Boxed w bx 24 (.slice (some ⟨Bc, 0, none⟩) n n)) (hr : IntRow w Bc cs) (hl : cs.length = n) (hn : n ≤ 1048576) (hx : ∀ x ∈ xs, 0 ≤ x ∧ x < n) :
    MapP intE intE w 110 #[.pointer (some ⟨bx, 0, none⟩)] xs (lookN cs) :=
  ⟨enters_of Tryz.func110 (by kernel_rfl) rfl, by
    rintro x hxm w' A hxt ⟨_, rfl, rfl⟩
    obtain ⟨h0, h1⟩ := hx x hxm
    obtain ⟨i, rfl⟩ := Int.eq_ofNat_of_zero_le h0
    exact res_int (classes2 w' bx Bc n i cs (Boxed.ext hb hxt) (hr.ext hxt) hl (by omega) hn)⟩

/-- what classes keeps while it runs -/
structure CSt (w : World) (b0 bx Bc : Nat) (A : Option Addr) (cap n : Nat) (cs : List Nat) (wr : World) : Prop where
  ext : Ext w wr
  gbox : Boxed wr b0 77 (.slice A n cap)
  cbox : Boxed wr bx 24 (.slice (some ⟨Bc, 0, none⟩) n n)
  row : IntRow wr Bc cs
  len : cs.length = n
  nb : w.heap.size ≤ Bc ∧ w.heap.size ≤ bx ∧ b0 ≠ Bc ∧ bx ≠ Bc ∧ b0 ≠ bx
section
variable {w wr : World} {b0 bx Bc : Nat} {A : Option Addr} {cap n : Nat} {cs : List Nat}
theorem CSt.later {wr' : World} (h : CSt w b0 bx Bc A cap n cs wr) (hx : Ext wr wr') : CSt w b0 bx Bc A cap n cs wr' :=
  ⟨h.ext.trans hx, Boxed.ext h.gbox hx, Boxed.ext h.cbox hx, h.row.ext hx, h.len, h.nb⟩
theorem CSt.set (h : CSt w b0 bx Bc A cap n cs wr) (i v : Nat) : CSt w b0 bx Bc A cap n (cs.set i v) (wr.setCell ⟨Bc, i, none⟩ (.int .i64 (v : Int))) :=
  ⟨h.ext.setCell h.nb.1 _, Boxed.other' h.gbox _ h.nb.2.2.1, Boxed.other' h.cbox _ h.nb.2.2.2.1, h.row.set i v, by simp [h.len], h.nb⟩
theorem CSt.put (h : CSt w b0 bx Bc A cap n cs wr) (Bn i : Nat) (v : Value) (h1 : w.heap.size ≤ Bn) (h2 : b0 ≠ Bn) (h3 : bx ≠ Bn) (h4 : Bc ≠ Bn) : CSt w b0 bx Bc A cap n cs (wr.setCell ⟨Bn, i, none⟩ v) :=
  ⟨h.ext.setCell h1 _, Boxed.other' h.gbox _ h2, Boxed.other' h.cbox _ h3, h.row.other _ h4, h.len, h.nb⟩
end
end Go.Proofs.YtldnjnnhfeobdaaGreatDoor
/- Contract: reach: what ways lead to. Conditions: a right graph; a quiet function value for classes. -/
namespace Go.Proofs.YtldnjnnhfeobdaaGreatDoor
set_option linter.all false
set_option linter.unusedSimpArgs false
set_option linter.unusedVariables false
open Go.RowKit Go.Shelf
attribute [local go_sem] Oper.semAt_some

def i64V (l : List Nat) : List Value := l.map fun (n : Nat) => Value.int .i64 (n : Int)
theorem i64V_snoc (l : List Nat) (n : Nat) : i64V (l ++ [n]) = i64V l ++ [.int .i64 (n : Int)] := by simp [i64V]
/-- the classes that have been seen, as a map -/
def clsF (s : List Nat) : Int → Option Value := fun q => if q ∈ s.map (fun (n : Nat) => (n : Int)) then some (.bool true) else none
theorem cast_mem {c : Nat} {s : List Nat} : (c : Int) ∈ s.map (fun (n : Nat) => (n : Int)) ↔ c ∈ s :=
  ⟨fun h => by obtain ⟨q, hq, e⟩ := List.mem_map.1 h; have : q = c := by omega
               rw [← this]; exact hq, fun h => List.mem_map_of_mem h⟩
theorem clsF_getD (s : List Nat) (c : Nat) : (clsF s (c : Int)).getD (.bool false) = .bool (decide (c ∈ s)) := by
  unfold clsF
  by_cases h : c ∈ s
  · rw [if_pos (cast_mem.2 h)]; simp [h]
  · rw [if_neg (fun h' => h (cast_mem.1 h'))]; simp [h]
theorem clsF_put (s : List Nat) (c : Nat) : put (clsF s) (c : Int) (.bool true) = clsF (s ++ [c]) := by
  funext q
  unfold put clsF
  by_cases h : q = (c : Int)
  · simp [h]
  · rw [if_neg h]
    have : q ∈ (s ++ [c]).map (fun (n : Nat) => (n : Int)) ↔ q ∈ s.map (fun (n : Nat) => (n : Int)) := by
      rw [List.map_append, List.mem_append, List.map_cons, List.map_nil, List.mem_singleton]
      exact ⟨fun h' => h'.elim id (fun e => absurd e h), .inl⟩
    by_cases h2 : q ∈ s.map (fun (n : Nat) => (n : Int))
    · rw [if_pos h2, if_pos (this.2 h2)]
    · rw [if_neg h2, if_neg (fun h' => h2 (this.1 h'))]
theorem clsF_nil : clsF [] = fun _ => none := by funext q; simp [clsF]

theorem zeroBool' (w : World) : (zeroValue 4).run Tryz.prog w = .ok (.bool false) w := by kernel_rfl
theorem addN_len (cls : Nat → Nat) : ∀ rs out, (addN cls out rs).length ≤ out.length + rs.length
  | [], out => by simp [addN]
  | r :: rs, out => by
    unfold addN
    split
    · have := addN_len cls rs out; simp; omega
    · have := addN_len cls rs (out ++ [r]); simp at this ⊢; omega
/-! ### marks of loops that are over -/
def marksOf (Ds : List Nat) : List Deferred := Ds.map fun D => { target := .collected D, args := #[] }
theorem leaves_marks {n : Nat} {fn : Func} {tmps : Array Value} {R : Ending → World → Prop} {I : World → Prop} {p : Nat → Prop} (hI : ∀ w D, p D → I w → w.heap[D]? = some (.deferred (some [])) → I (w.putObj D (.deferred none)))
    (hR : ∀ w, I w → LeavesInM Fence.wide n Tryz.prog fn tmps R [] .returning w) : ∀ Ds w, I w → Ds.Nodup → (∀ D ∈ Ds, p D ∧ w.heap[D]? = some (.deferred (some []))) → LeavesInM Fence.wide n Tryz.prog fn tmps R (marksOf Ds) .returning w
  | [], w, h, _, _ => hR w h
  | D :: Ds, w, h, hn, hd => by
    obtain ⟨hp, hD⟩ := hd D (by simp)
    have hn' := List.nodup_cons.1 hn
    refine ⟨by simp, .inl ⟨D, _, rfl, run_takeDeferred hD, leaves_marks hI hR Ds _ (hI w D hp h hD) hn'.2 fun D' h' => ⟨(hd D' (by simp [h'])).1, ?_⟩⟩⟩
    have hne : D' ≠ D := fun e => hn'.1 (e ▸ h')
    exact (World.putObj_heap_other hne).trans (hd D' (by simp [h'])).2

/-! ### what holds while it is looked for -/
structure RSt (w : World) (b3 b5 b7 b8 mb : Nat) (gv fv : Value) (seen out : List Nat) (v : Value) (W : World) : Prop where
  ext : Ext w W
  gbox : Boxed W b3 77 gv
  fbox : Boxed W b5 103 fv
  obox : Boxed W b7 24 v
  row : W.ownsRow w.heap.size 3 1 v out.length (i64V out)
  mbox : Boxed W b8 164 (.map (some mb))
  map : MapF (intK Tryz.underlying3) W mb (clsF seen)
  nb : w.heap.size ≤ mb ∧ w.heap.size ≤ b7 ∧ b7 ≠ b3 ∧ b7 ≠ b5 ∧ b7 ≠ b8 ∧ w.heap.size ≤ b3
section
variable {w W W' : World} {b3 b5 b7 b8 mb : Nat} {gv fv v : Value} {seen out : List Nat}
theorem RSt.later (h : RSt w b3 b5 b7 b8 mb gv fv seen out v W) (hx : Ext W W') : RSt w b3 b5 b7 b8 mb gv fv seen out v W' :=
  ⟨h.ext.trans hx, Boxed.ext h.gbox hx, Boxed.ext h.fbox hx, Boxed.ext h.obox hx, h.row.kept (row := none) ⟨Below.os hx, Below.tape hx, Below.output hx, Below.size hx, fun k hk _ => Below.block hx k hk⟩ (by cases v.ownBlock <;> simp), Boxed.ext h.mbox hx, h.map.ext hx, h.nb⟩
theorem Boxed.ne_map {t : TypeId} {u : Value} {f : Int → Option Value} (h : Boxed W b3 t u) (hm : MapF (intK Tryz.underlying3) W mb f) : b3 ≠ mb := by
  rintro rfl
  obtain ⟨es, c, h2, _⟩ := hm
  rw [show W.heap[b3]? = _ from h] at h2
  injection h2 with h2
  cases h2
theorem RSt.mark (h : RSt w b3 b5 b7 b8 mb gv fv seen out v W) {c : Nat} (hm : MapF (intK Tryz.underlying3) W' mb (put (clsF seen) (c : Int) (.bool true))) (hg : W.grownBy W' (some mb)) : RSt w b3 b5 b7 b8 mb gv fv (seen ++ [c]) out v W' := by
  have hk : ∀ b t u, Boxed W b t u → Boxed W' b t u := fun b t u hb => (hg.block b (Array.getElem?_eq_some_iff.1 (show W.heap[b]? = _ from hb)).1 (fun e => Boxed.ne_map hb h.map (by injection e))).trans hb
  refine ⟨Below.grown h.ext hg h.ext.size (fun k hk => by cases hk; exact h.nb.1), hk _ _ _ h.gbox, hk _ _ _ h.fbox, hk _ _ _ h.obox, h.row.kept hg ?_, hk _ _ _ h.mbox, by rw [← clsF_put]; exact hm, h.nb⟩
  rcases h.row.2 with ⟨rfl, _⟩ | ⟨g, cap, cur, rfl, _, hgb, _⟩
  · exact .inl rfl
  · refine .inr fun e => ?_
    obtain ⟨es, c, h2, _⟩ := h.map
    have e' : g = mb := by simpa [Value.ownBlock] using e
    rw [e'] at hgb
    rw [hgb] at h2
    injection h2 with h2
    cases h2
end
theorem RSt.own {w W W' : World} {b3 b5 b7 b8 mb B : Nat} {gv fv v : Value} {seen out : List Nat} (h : RSt w b3 b5 b7 b8 mb gv fv seen out v W) (hmb : mb < B) (hB : w.heap.size ≤ B) {row : Option Nat} (hg : W.grownBy W' row)
    (hr : ∀ r, row = some r → B ≤ r ∧ ∃ o : Obj, W.heap[r]? = some o ∧ o.isCells = false) : RSt w b3 b5 b7 b8 mb gv fv seen out v W' := by
  have hk : ∀ (b : Nat) (c : Array Value) (t : TypeId) (fr : Nat × Nat), W.heap[b]? = some (Obj.cells c t fr) → W'.heap[b]? = some (Obj.cells c t fr) := fun b c t fr hb => (hg.block b (Array.getElem?_eq_some_iff.1 hb).1 (fun e => by
    obtain ⟨_, o, ho, hc⟩ := hr b e.symm
    rw [hb] at ho; cases ho; cases hc)).trans hb
  refine ⟨Below.grown h.ext hg h.ext.size (fun k hk => by have := (hr k hk).1; omega), hk _ _ _ _ h.gbox, hk _ _ _ _ h.fbox, hk _ _ _ _ h.obox, ⟨h.row.1, ?_⟩, hk _ _ _ _ h.mbox, h.map.kept (hg.block mb h.map.lt (fun e => by have := (hr mb e.symm).1; omega)), h.nb⟩
  rcases h.row.2 with hn | ⟨g, cap, cur, e, h1, h2, h3⟩
  · exact .inl hn
  · exact .inr ⟨g, cap, cur, e, h1, hk _ _ _ _ h2, h3⟩
/-- one more behind what has been found -/
theorem RSt.push {w W w1 : World} {b3 b5 b7 b8 mb : Nat} {gv fv v v' : Value} {seen out : List Nat} {r : Nat} {tmp : Obj} (h : RSt w b3 b5 b7 b8 mb gv fv seen out v W)
    (hown' : w1.ownsRow w.heap.size 3 1 v' (out.length + 1) (i64V out ++ [.int .i64 (r : Int)])) (hgrow : (W.alloc tmp).grownBy w1 v.ownBlock) : RSt w b3 b5 b7 b8 mb gv fv seen (out ++ [r]) v' (w1.setCell ⟨b7, 0, none⟩ v') ∧ KpR w.heap.size W (w1.setCell ⟨b7, 0, none⟩ v') := by
  have hsz := h.ext.size
  obtain ⟨hv1, hv2, hr2, hk2, hb2⟩ := h.obox.appended (by decide) h.row hsz h.nb.2.1 hown' hgrow
  have hkp := kp_appended h.obox h.row hsz h.nb.2.1 hown' hgrow
  have hk : ∀ b t u, t ≠ 3 → b ≠ b7 → Boxed W b t u → Boxed (w1.setCell ⟨b7, 0, none⟩ v') b t u := fun b t u ht hne hb => by
    have hlt : b < W.heap.size := (Array.getElem?_eq_some_iff.1 (show W.heap[b]? = _ from hb)).1
    refine (Below.heap_setCell _ _ _ _ hne).trans ((hgrow.block b (by simp; omega) ?_).trans ((Below.heap_alloc _ _ _ hlt).trans hb))
    rcases h.row.2 with ⟨rfl, _⟩ | ⟨g, cap, cur, rfl, _, hgb, _⟩
    · simp [Value.ownBlock]
    · intro e
      obtain rfl : b = g := by simpa [Value.ownBlock] using e
      have := hgb.symm.trans (show W.heap[b]? = _ from hb)
      simp at this
      exact ht this.2.symm
  refine ⟨⟨Below.trans h.ext hb2, hk _ _ _ (by decide) (fun e => h.nb.2.2.1 e.symm) h.gbox, hk _ _ _ (by decide) (fun e => h.nb.2.2.2.1 e.symm) h.fbox, hv2, by rw [i64V_snoc, List.length_append]; exact hr2, hk _ _ _ (by decide) (fun e => h.nb.2.2.2.2.1 e.symm) h.mbox, ?_, h.nb⟩, hkp⟩
  obtain ⟨es, c, h2, h3⟩ := h.map
  exact ⟨es, c, hk2.same _ _ h2 rfl, h3⟩
/-- a function value that tells the class of a number, and does nothing else -/
structure SameP (w : World) (f : Nat) (cb : Array Value) (cls : Nat → Nat) (n : Nat) : Prop where
  ent : Enters Tryz.prog f
  run : ∀ i, i < n → ∀ w', Ext w w' → Calls Tryz.prog f (#[.int .i64 (i : Int)] ++ cb) w' (fun e w'' => e = .returned (.int .i64 (cls i : Nat)) ∧ w'' = w')
theorem SameP.later {w w1 : World} {f : Nat} {cb : Array Value} {cls : Nat → Nat} {n : Nat} (h : SameP w f cb cls n) (hx : Ext w w1) : SameP w1 f cb cls n := ⟨h.ent, fun i hi w' hw => h.run i hi w' (hx.trans hw)⟩

theorem wp_loop_J {P : Program} {c : Code} {Q : Exit → Act → World → Prop} {a : Act} {w : World} (I : Act → World → Prop) (μ : Act → World → Nat) (h₀ : I a w)
    (round : ∀ a w, I a w → ∀ J : Act → World → Prop, (∀ a' w', I a' w' → μ a' w' < μ a w → J a' w') → c.wp P (Exit.then J Q) a w) : (Code.loop c).wp P Q a w :=
  wp_loop I μ h₀ fun a w h => round a w h _ (fun _ _ h1 h2 => ⟨h1, h2⟩)
/-- where the search stands at k: the frame, and what lies in memory -/
structure RAt (w : World) (g : Graph) (cls : Nat → Nat) (a : Nat) (b3 b5 b7 b8 mb : Nat) (gv fv : Value) (k : Nat) (out : List Nat) (v : Value) (Ds : List Nat) (W : World) : Prop where
  st : RSt w b3 b5 b7 b8 mb gv fv (out.map cls) out v W
  inv : RInv g.length cls (refsN g) a k out
  fin : reachN cls (refsN g) (g.length + 1 - k) k out = reachN cls (refsN g) (g.length + 1) 0 [a]
  dn : Ds.Nodup
  ds : ∀ D ∈ Ds, w.heap.size ≤ D ∧ W.heap[D]? = some (.deferred (some []))
def RLoop (w : World) (g : Graph) (cls : Nat → Nat) (a f : Nat) (cb : Array Value) (b3 b5 b7 b8 mb : Nat) (gv : Value) (act : Act) (W : World) : Prop :=
  ∃ (k : Nat) (out : List Nat) (v : Value) (Ds : List Nat) (u4 u10 u11 u12 u13 u14 u15 u16 u17 u18 u19 u20 u21 u22 u23 u24 u25 u26 u27 u28 u29 u30 u31 u32 u33 u34 u35 u36 u37 u38 u39 u40 u41 u42 u43 u44 u45 : Value),
    act = { tmps := #[.agg #[gv], .int .i64 (a : Int), .func (.func f) #[] cb, .pointer (some ⟨b3, 0, none⟩), u4, .pointer (some ⟨b5, 0, none⟩), .slice none 0 0, .pointer (some ⟨b7, 0, none⟩), .pointer (some ⟨b8, 0, none⟩), .int .i64 (k : Int), u10, u11, u12, u13, u14, u15, u16, u17, u18, u19, u20, u21, u22, u23, u24, u25, u26, u27, u28, u29, u30, u31, u32, u33, u34, u35, u36, u37, u38, u39, u40, u41, u42, u43, u44, u45], defers := marksOf Ds } ∧ RAt w g cls a b3 b5 b7 b8 mb gv (.func (.func f) #[] cb) k out v Ds W
theorem row_form {w W : World} {v : Value} {out : List Nat} (h : W.ownsRow w.heap.size 3 1 v out.length (i64V out)) (h0 : out ≠ []) : ∃ gr c, v = .slice (some ⟨gr, 0, none⟩) out.length c ∧ out.length ≤ c ∧ c ≤ maxLen ∧ ∀ j, j < out.length → W.cell? ⟨gr, j, none⟩ = some (.int .i64 (out.getD j 0 : Nat)) := by
  have hcs := fun (gr : Nat) (e : v.ownBlock = some gr) => h.cells (g := gr) e
  rcases h.2 with ⟨rfl, h1⟩ | ⟨gr, cap, cur, rfl, _, hgb, h2, h3, _⟩
  · exact absurd (List.eq_nil_of_length_eq_zero h1) h0
  · refine ⟨gr, cap, rfl, h2, h3, fun j hj => ?_⟩
    have := hcs gr rfl j (.int .i64 (out.getD j 0 : Nat)) (by simp [i64V, List.getD_eq_getElem?_getD, List.getElem?_eq_getElem hj])
    rwa [Addr.add_lit, Nat.zero_add] at this

set_option maxRecDepth 100000 in
set_option maxHeartbeats 16000000 in
theorem reach_in (w : World) (gv : Value) (g : Graph) (a : Nat) (f : Nat) (cb : Array Value) (cls : Nat → Nat) (hg : Sl tyE w gv g) (hn : g.length ≤ 1048576) (hW : WF g) (ha : a < g.length) (hc : ∀ i, i < g.length → cls i < g.length) (hS : SameP w f cb cls g.length) :
    CallsIn Fence.wide 6 Tryz.prog 87 #[.agg #[gv], .int .i64 (a : Int), .func (.func f) #[] cb] w fun e W' => ∃ v, e = .returned v ∧ W'.ownsRow w.heap.size 3 1 v (reachN cls (refsN g) (g.length + 1) 0 [a]).length (i64V (reachN cls (refsN g) (g.length + 1) 0 [a])) ∧ Ext w W' := by
  have eg : ∀ args w, (callFunc f args).run Tryz.prog w = .ok (.enter f args) w := hS.ent
  have hmm := @run_makeMap Tryz.prog
  have HS := Lib.hid hS
  have Hg := Lib.hid hg
  have HW := Lib.hid hW
  have Hc := Lib.hid hc
  obtain ⟨A, cap, rfl⟩ := hg.len
  clear hS hg hW hc
  refine callsIn_of_wp_marks Tryz.func87 rfl trivial (wpIn_wide.2 ?_) rfl
  simp only [Tryz.ntmps87, List.size_toArray, List.length_cons, List.length_nil, Nat.reduceAdd, Nat.reduceSub, Array.replicate_succ, Array.replicate_zero, List.push_toArray, List.append_toArray, List.nil_append, List.cons_append]
  go_wp2_with fail
  refine (HS.out.run a ha _ ?_).mono ?_
  · exact (((((Ext.refl w).alloc _).alloc _).alloc _).alloc _).alloc _
  rintro e w1 ⟨rfl, hw1⟩
  have hmd := MapF.made (intK Tryz.underlying3) ((((w.alloc (.cells #[.slice A g.length cap] 77)).alloc (.cells #[.func (.func f) #[] cb] 103)).alloc (.cells #[.int .i64 (a : Int)] 3)).alloc (.cells #[.slice (some ⟨w.heap.size + 1 + 1, 0, none⟩) 1 1] 24))
  simp only [World.size_alloc] at hmd
  have Hmd := Lib.hid hmd
  clear hmd
  subst hw1
  go_wp2_with (refine wpList_insert_F (intK Tryz.underlying3) (by rfl) _ _ _ 164 4 (by rfl) Tryz.underlying164 _ _ ((cls a : Nat) : Int) (by rfl) (by rfl) Hmd.out ?_; intro w3 hm3 hg3)
  have hat0 : RAt w g cls a w.heap.size (w.heap.size + 1) (w.heap.size + 1 + 1 + 1) w3.heap.size (w.heap.size + 1 + 1 + 1 + 1) (.slice A g.length cap) (.func (.func f) #[] cb) 0 [a] (.slice (some ⟨w.heap.size + 1 + 1, 0, none⟩) 1 1) [] (w3.alloc (.cells #[.map (some (w.heap.size + 1 + 1 + 1 + 1))] 164)) := by
    have e1 := heap_alloc_self w (.cells #[.slice A g.length cap] 77)
    have e2 := heap_alloc_self (w.alloc (.cells #[.slice A g.length cap] 77)) (.cells #[.func (.func f) #[] cb] 103)
    have e3 := heap_alloc_self ((w.alloc (.cells #[.slice A g.length cap] 77)).alloc (.cells #[.func (.func f) #[] cb] 103)) (.cells #[.int .i64 (a : Int)] 3)
    have e4 := heap_alloc_self (((w.alloc (.cells #[.slice A g.length cap] 77)).alloc (.cells #[.func (.func f) #[] cb] 103)).alloc (.cells #[.int .i64 (a : Int)] 3)) (.cells #[.slice (some ⟨w.heap.size + 1 + 1, 0, none⟩) 1 1] 24)
    simp only [World.size_alloc] at e2 e3 e4
    have x1 := Ext.refl w
    have hsz := hg3.size
    simp only [World.size_alloc] at hsz
    have hx3 : Ext ((((w.alloc (.cells #[.slice A g.length cap] 77)).alloc (.cells #[.func (.func f) #[] cb] 103)).alloc (.cells #[.int .i64 (a : Int)] 3)).alloc (.cells #[.slice (some ⟨w.heap.size + 1 + 1, 0, none⟩) 1 1] 24)) w3 :=
      Below.grown ((Ext.refl _).alloc _) hg3 (by simp) (fun k hk => by cases hk; simp)
    have lift : ∀ b o, ((((w.alloc (.cells #[.slice A g.length cap] 77)).alloc (.cells #[.func (.func f) #[] cb] 103)).alloc (.cells #[.int .i64 (a : Int)] 3)).alloc (.cells #[.slice (some ⟨w.heap.size + 1 + 1, 0, none⟩) 1 1] 24)).heap[b]? = some o → (w3.alloc (.cells #[.map (some (w.heap.size + 1 + 1 + 1 + 1))] 164)).heap[b]? = some o := fun b o h => (hx3.alloc (.cells #[.map (some (w.heap.size + 1 + 1 + 1 + 1))] 164)).heap h
    refine ⟨⟨?_, lift _ _ ?_, lift _ _ ?_, lift _ _ e4, ?_, heap_alloc_self w3 _, ?_, by omega, by omega, by omega, by omega, by omega, by omega⟩, RInv.init ha, rfl, List.nodup_nil, by simp⟩
    · exact ((((((Ext.refl w).alloc _).alloc _).alloc _).alloc _).trans hx3).alloc _
    · exact ((((Ext.refl _).alloc _).alloc _).alloc _).heap e1
    · exact (((Ext.refl _).alloc _).alloc _).heap e2
    · refine ⟨by simp [i64V], .inr ⟨w.heap.size + 1 + 1, 1, #[.int .i64 (a : Int)], rfl, by omega, lift _ _ (((Ext.refl _).alloc _).heap e3), Nat.le_refl _, by simp [maxLen], by simp, by simp [i64V]⟩⟩
    · have e : put (fun _ => none) ((cls a : Nat) : Int) (.bool true) = clsF ([a].map cls) := by rw [← clsF_nil, clsF_put]; rfl
      have := hm3.ext ((Ext.refl w3).alloc (.cells #[.map (some (w.heap.size + 1 + 1 + 1 + 1))] 164))
      rw [← e]; exact this
  have Hat0 := Lib.hid hat0
  clear hat0 hm3 hg3 Hmd hmm
  generalize w3.alloc (.cells #[.map (some (w.heap.size + 1 + 1 + 1 + 1))] 164) = w4 at Hat0 ⊢
  generalize w3.heap.size = b8 at Hat0 ⊢
  refine wp_loop_J (RLoop w g cls a f cb w.heap.size (w.heap.size + 1) (w.heap.size + 1 + 1 + 1) b8 (w.heap.size + 1 + 1 + 1 + 1) (.slice A g.length cap)) (fun act _ => g.length + 1 - (intOf (act.tmps.getD 9 undef)).toNat) ⟨0, [a], _, [], _, _, _, _, _, _, _, _, _, _, _, _, _, _, _, _, _, _, _, _, _, _, _, _, _, _, _, _, _, _, _, _, _, _, _, _, _, rfl, Hat0.out⟩ ?_
  clear Hat0
  generalize hb7 : w.heap.size + 1 + 1 + 1 = b7
  generalize hmb : b7 + 1 = mb
  generalize hb5 : w.heap.size + 1 = b5
  generalize hb3 : w.heap.size = b3
  clear hb7 hmb hb5 hb3
  rintro _ W ⟨k, out, v, Ds, u4, u10, u11, u12, u13, u14, u15, u16, u17, u18, u19, u20, u21, u22, u23, u24, u25, u26, u27, u28, u29, u30, u31, u32, u33, u34, u35, u36, u37, u38, u39, u40, u41, u42, u43, u44, u45, rfl, hat⟩ J hJ
  have HJ := Lib.hid hJ
  clear hJ
  have hol := hat.inv.len Hc.out
  have hkl := hat.inv.le
  have h0 : out ≠ [] := fun e => by have := hat.inv.start; rw [e] at this; simp at this
  obtain ⟨gr, c, rfl, hc1, hc2, hrow⟩ := row_form hat.st.row h0
  have c3 := hat.st.gbox.cell
  have c5 := hat.st.fbox.cell
  have c7 := hat.st.obox.cell
  have c8 := hat.st.mbox.cell
  have l3 := cell_lt c3
  have l5 := cell_lt c5
  have l7 := cell_lt c7
  have l8 := cell_lt c8
  by_cases hlt : k < out.length
  · have ck := hrow k hlt
    have lk := cell_lt ck
    have hk0 : (0 : Int) ≤ (k : Int) := by omega
    have hk1 : (k : Int) < (out.length : Int) := by omega
    have hik : out.getD k 0 < g.length := hat.inv.rng _ (getD_mem hlt)
    have hik2 : out[k]? = some (out.getD k 0) := by simp [List.getD_eq_getElem?_getD, List.getElem?_eq_getElem hlt]
    have hgo := reachN_go (cls := cls) (rf := refsN g) (f := g.length - k) hik2
    rw [show g.length - k + 1 = g.length + 1 - k by omega] at hgo
    have hinv2 := hat.inv.step HW.out.abs.rng hik2
    generalize out.getD k 0 = i at *
    have Hat := Lib.hid hat
    have Hgo := Lib.hid hgo
    have Hinv2 := Lib.hid hinv2
    have href := fun (w' : World) (hx : Ext w w') => refs_any2 w w' _ g i hx Hg.out hik hn
    have Href := Lib.hid href
    clear hat hgo hinv2 hik2 hrow href
    go_wp2_with fail
    go_still_tail 5, (by kernel_rfl)
    change wpList _ _ _ _ _ W.drew
    go_wp2_with fail
    refine (Href.out _ Hat.out.st.ext.drew).mono ?_
    rintro e w5 ⟨bx, vp, vm, vo, rfl, hbx, hof, hx5, hbl⟩
    have hgn := refs_givesN (Hat.out.st.ext.drew.trans hx5) hof (HW.out.fine (getT_mem hik)) hbx
    obtain ⟨eg2, hseq⟩ := hgn
    have eg2' : ∀ args w, (callFunc 152 args).run Tryz.prog w = .ok (.enter 152 args) w := eg2
    have Hseq := Lib.hid (hseq (6 - 1) (by omega))
    have Hx5 := Lib.hid ((Ext.refl W).drew.trans hx5)
    have Hst5 := Lib.hid (Hat.out.st.later ((Ext.refl W).drew.trans hx5))
    have Hds := Lib.hid (fun D hD => (⟨(Hat.out.ds D hD).1, ((Ext.refl W).drew.trans hx5).heap (Hat.out.ds D hD).2⟩ : w.heap.size ≤ D ∧ w5.heap[D]? = some (.deferred (some []))))
    have hmb5 := Hst5.out.map.lt
    have hw5 := Hst5.out.ext.size
    have Hext5 := Lib.hid Hst5.out.ext
    clear eg2 hseq hbx hof hx5 hbl c3 c5 c7 c8 l3 l5 l7 l8 ck lk
    go_wp2_with fail
    refine wpIn_wide.1 (wpIn_rangeFunc_ownG (F := Fence.wide) (n := 6) rfl (by omega) (gf := 152) (lb := #[.pointer (some ⟨bx, 0, none⟩)]) rfl trivial eg2' (w0 := w5) Hseq.out KpR.trans (KpR.book hw5) (Below.refl _ _) (fun _ => rfl)
      (fun (pre : List (Bel g.length)) W' => ∃ v', RSt w b3 b5 b7 b8 mb (.slice A g.length cap) (.func (.func f) #[] cb) ((addN cls out (pre.map fun x => x.1.toNat)).map cls) (addN cls out (pre.map fun x => x.1.toNat)) v' W' ∧ ∀ D ∈ Ds, w.heap.size ≤ D ∧ D < w5.heap.size ∧ W'.heap[D]? = some (.deferred (some [])))
      (fun _ _ _ => False) ?own (fun _ _ _ _ _ hs _ _ => hs) ?start ?a1 ?assign ?body ?done ?stop)
    case assign =>
      intro l x W' K hK
      gi_wp2
      exact hK
    case own =>
      rintro pre X Y row ⟨v', hst, hds⟩ hg hr
      refine ⟨v', hst.own hmb5 hw5 hg hr, fun D hD => ⟨(hds D hD).1, (hds D hD).2.1, ?_⟩⟩
      have h1 := (hds D hD).2.2
      refine (hg.block D (Array.getElem?_eq_some_iff.1 h1).1 fun e => ?_).trans h1
      have := (hr D e.symm).1
      have := (hds D hD).2.1
      omega
    case start => exact ⟨_, by simpa [addN] using Hst5.out, fun D hD => ⟨(Hds.out D hD).1, (Array.getElem?_eq_some_iff.1 (Hds.out D hD).2).1, (Hds.out D hD).2⟩⟩
    case stop =>
      rintro D c pre W' _ _ h _
      exact h.elim
    case body =>
      rintro l pre ⟨xi, hxi⟩ W' ⟨v', hst, hds⟩ hlt'
      obtain ⟨j, rfl⟩ := Int.eq_ofNat_of_zero_le hxi.1
      have hj : j < g.length := by omega
      have hadd : addN cls out ((pre ++ [(⟨(j : Int), hxi⟩ : Bel g.length)]).map fun x => x.1.toNat) = if cls j ∈ (addN cls out (pre.map fun x => x.1.toNat)).map cls then addN cls out (pre.map fun x => x.1.toNat) else addN cls out (pre.map fun x => x.1.toNat) ++ [j] := by
        rw [List.map_append, addN_append]; rfl
      have Hadd := Lib.hid hadd
      have hol2 := addN_len cls (pre.map fun x => x.1.toNat) out
      rw [List.length_map] at hol2
      clear hadd
      generalize addN cls out (pre.map fun x => x.1.toNat) = o2 at *
      have Hst2 := Lib.hid hst
      have c5 := hst.fbox.cell
      have c7 := hst.obox.cell
      have c8 := hst.mbox.cell
      have l5 := cell_lt c5
      have l7 := cell_lt c7
      have l8 := cell_lt c8
      have hlk : ∀ (w' : World), Ext W' w' → (Instr.lookup 164 (.map (some mb)) (.int .i64 ((cls j : Nat) : Int)) false).run Tryz.prog w' = .ok (.bool (decide (cls j ∈ o2.map cls))) w' := fun w' hx => by
        have h := (hst.map.ext hx).lookup Tryz.underlying164 (zeroBool' w') ((cls j : Nat) : Int)
        rw [clsF_getD] at h
        exact h
      have hcj := Hc.out j hj
      have Hlk := Lib.hid hlk
      have Hds2 := Lib.hid hds
      have hsame := fun (w' : World) (hx : Ext W' w') => HS.out.run j hj w' (hst.ext.trans hx)
      have Hsame := Lib.hid hsame
      clear hst hlk hsame hds
      by_cases hin : cls j ∈ o2.map cls
      · have Hin := Lib.hid hin
        have hl1 : ∀ nq, (Instr.lookup 164 (.map (some mb)) (.int .i64 ((cls j : Nat) : Int)) false).run Tryz.prog (W'.drewN nq) = .ok (.bool true) (W'.drewN nq) := fun nq => by
          have h := Hlk.out _ ((Ext.refl W').drewN nq); rw [decide_eq_true Hin.out] at h; exact h
        clear hin
        gi_wp2
        refine wpIn_region_X (by kernel_rfl) (by kernel_rfl) (by kernel_rfl) (fun ⟨_, _, h⟩ => h) (fun w' => ∃ n, w' = W'.drewN n) ⟨1, rfl⟩ ?_
        repeat (first | go_big_quiet_step ((exact Calls.quiet_of_same (Hsame.out _ ((Ext.refl W').drewN _)))) | quiet_step ((exact Calls.quiet_of_same (Hsame.out _ ((Ext.refl W').drewN _)))))
        refine wpQuiet_nil ?_
        intro _ hw'
        obtain ⟨nq, hw''⟩ := hw'
        subst hw''
        clear hl1
        gi_wp2
        refine ⟨KeepsFrom.of_grownBy (row := none) ⟨rfl, rfl, rfl, Nat.le_refl _, fun _ _ _ => rfl⟩ (fun _ e => by cases e), ⟨Below.mono ((Ext.refl W').drewN nq) Hst2.out.ext.size, fun _ _ _ _ _ h => h⟩, v', ?_, Hds2.out⟩
        rw [Hadd.out, if_pos Hin.out]
        exact Hst2.out.later ((Ext.refl W').drewN nq)
      · have Hin := Lib.hid hin
        have hl1 : ∀ nq, (Instr.lookup 164 (.map (some mb)) (.int .i64 ((cls j : Nat) : Int)) false).run Tryz.prog (W'.drewN nq) = .ok (.bool false) (W'.drewN nq) := fun nq => by
          have h := Hlk.out _ ((Ext.refl W').drewN nq); rw [decide_eq_false Hin.out] at h; exact h
        clear hin
        gi_wp2
        refine wpIn_region_X (by kernel_rfl) (by kernel_rfl) (by kernel_rfl) (fun ⟨_, _, h⟩ => h) (fun w' => ∃ n, w' = W'.drewN n) ⟨1, rfl⟩ ?_
        repeat (first | go_big_quiet_step ((exact Calls.quiet_of_same (Hsame.out _ ((Ext.refl W').drewN _)))) | quiet_step ((exact Calls.quiet_of_same (Hsame.out _ ((Ext.refl W').drewN _)))))
        refine wpQuiet_nil ?_
        intro _ hw'
        obtain ⟨nq, hw''⟩ := hw'
        subst hw''
        clear hl1
        have Hst3 := Lib.hid (Hst2.out.later ((Ext.refl W').drewN nq))
        gi_wp2
        refine wpIn_region_tail 4 (by kernel_rfl) (by kernel_rfl) (by kernel_rfl) (fun ⟨_, _, h⟩ => h) ?_
        simp only [List.take_succ_cons, List.take_zero, List.drop_succ_cons, List.drop_zero]
        still_step
        still_step
        still_step
        still_call (Hsame.out _ (((Ext.refl W').drewN nq).drew))
        refine wpStill_nil ?_
        refine wpList_update_F (intK Tryz.underlying3) (by rfl) _ _ _ 164 4 (by rfl) Tryz.underlying164 mb (clsF (o2.map cls)) ((cls j : Nat) : Int) (by rfl) (by rfl) (Hst3.out.map.ext (Ext.refl _).drew) ?_
        intro w8 hm8 hg8
        have hx8 : KeepsFrom w5.heap.size (W'.drewN nq).drew w8 := KeepsFrom.of_grownBy hg8 (fun r e => by cases e; exact hmb5)
        have Hst8 := Lib.hid ((Hst3.out.later (Ext.refl _).drew).mark hm8 hg8)
        have Hx8 := Lib.hid hx8
        have Hkp8 := Lib.hid (show KpR w.heap.size (W'.drewN nq).drew w8 from ⟨Below.grown (Below.refl _ _) hg8 (by have := Hst3.out.ext.size; simpa using this) (fun r e => by cases e; exact Hst3.out.nb.1), fun b cc ty fr _ hb => (hg8.block b (Array.getElem?_eq_some_iff.1 hb).1 (fun e => by
          have e : b = mb := by injection e
          obtain ⟨es, ck, h2, _⟩ := Hst3.out.map
          rw [e] at hb
          rw [show (W'.drewN nq).heap[mb]? = _ from hb] at h2
          injection h2 with h2
          cases h2)).trans hb⟩)
        have Hds8 := Lib.hid (show ∀ D ∈ Ds, w8.heap[D]? = some (.deferred (some [])) from fun D hD => (hg8.block D (Array.getElem?_eq_some_iff.1 (Hds2.out D hD).2.2).1 (fun e => by
          have e : D = mb := by injection e
          obtain ⟨es, ck, h2, _⟩ := Hst3.out.map
          have h1 := (Hds2.out D hD).2.2
          rw [e] at h1
          rw [show (W'.drewN nq).heap[mb]? = _ from h1] at h2
          injection h2 with h2
          cases h2)).trans (Hds2.out D hD).2.2)
        have d7 := Hst8.out.obox.cell
        have ld7 := cell_lt d7
        clear hm8 hg8 hx8 c5 c7 c8 l5 l7 l8
        go_wp2_with fail
        obtain ⟨i0, hi, hz0, hz1, hz2⟩ := info_parts infoI
        have hsz8 := Hst8.out.ext.size
        gi_wp2_with (gi_at_builtin; refine wpListIn_append_own _ rfl _ _ 24 rfl w.heap.size 3 i0 (.int .i64 0) 1 8 Tryz.underlying24 hi hz0 hz1 hz2 rfl (by decide) _ _ _ rfl (Hst8.out.row.alloc _) ⟨w8.heap.size, 0, none⟩ 1 1 [.int .i64 (j : Int)] rfl rfl (cell_one_new _ _ _) (by simp [Value.oneCell']) (by simp only [maxLen]; omega) (by omega) (by simp; omega) ?_; intro v2 w1 hown' hgrow _; obtain ⟨g2, cap2, rfl⟩ := ownsRow_succ hown'; obtain ⟨hv1, _, _, hk2, _⟩ := Hst8.out.obox.appended (by decide) Hst8.out.row hsz8 Hst8.out.nb.2.1 hown' hgrow; have Hk2 := Lib.hid hk2; clear hk2; have Hps := Lib.hid (Hst8.out.push hown' hgrow); have hc1 := hv1.cell; have hf1 := hv1.frozen)
        have kd : KeepsFrom w5.heap.size W' (W'.drewN nq).drew := KeepsFrom.of_grownBy (row := none) ⟨rfl, rfl, rfl, Nat.le_refl _, fun _ _ _ => rfl⟩ (fun _ e => by cases e)
        have kp : KpR w.heap.size W' (W'.drewN nq).drew := ⟨Below.mono ((Ext.refl W').drewN nq).drew Hst2.out.ext.size, fun _ _ _ _ _ h => h⟩
        refine ⟨(kd.trans Hx8.out).trans (Hk2.out.from _), (kp.trans Hkp8.out).trans Hps.out.2, .slice (some ⟨g2, 0, none⟩) (o2.length + 1) cap2, ?_, fun D hD => ⟨(Hds2.out D hD).1, (Hds2.out D hD).2.1, Hk2.out.same D _ (Hds8.out D hD) rfl⟩⟩
        rw [Hadd.out, if_neg Hin.out, List.map_append]
        exact Hps.out.1
    case done =>
      rintro D xs W' hD hxs ⟨v', hst, hds⟩ hK
      have hout : addN cls out (xs.map fun x => x.1.toNat) = addN cls out (refsN g i) := by
        unfold refsN
        rw [← hxs, List.map_map]; rfl
      rw [hout] at hst
      have hat2 : RAt w g cls a b3 b5 b7 b8 mb (.slice A g.length cap) (.func (.func f) #[] cb) (k + 1) (addN cls out (refsN g i)) v' (D :: Ds) W' := by
        refine ⟨hst, Hinv2.out, ?_, List.nodup_cons.2 ⟨fun h => ?_, Hat.out.dn⟩, fun D' h => ?_⟩
        · rw [← Hat.out.fin, Hgo.out, show g.length + 1 - (k + 1) = g.length - k by omega]
        · have := (hds D h).2.1; omega
        · rcases List.mem_cons.1 h with rfl | h
          · exact ⟨by omega, hK⟩
          · exact ⟨(hds D' h).1, (hds D' h).2.2⟩
      have Hat2 := Lib.hid hat2
      clear hat2 hst hds hout hxs hK
      go_wp2_with fail
      refine HJ.out _ _ ⟨k + 1, _, v', D :: Ds, _, _, _, _, _, _, _, _, _, _, _, _, _, _, _, _, _, _, _, _, _, _, _, _, _, _, _, _, _, _, _, _, _, _, _, _, _, rfl, Hat2.out⟩ ?_
      simp [intOf]
      omega
  · have hkk : k = out.length := by omega
    have hfin := hat.fin
    rw [hkk, reachN_done (Nat.le_refl _)] at hfin
    have Hfin := Lib.hid hfin
    have Hat := Lib.hid hat
    clear hfin hat hrow hkk h0
    go_wp2_with fail
    refine leaves_marks (I := fun W' => W'.ownsRow w.heap.size 3 1 (.slice (some ⟨gr, 0, none⟩) out.length c) out.length (i64V out) ∧ Ext w W') (p := fun D => w.heap.size ≤ D) ?_ ?_ Ds W ⟨Hat.out.st.row, Hat.out.st.ext⟩ Hat.out.dn Hat.out.ds
    · rintro w9 D hp ⟨h1, h2⟩ hD
      exact ⟨ownsRow_putObj h1 _ hD rfl, Below.trans h2 (belowK_b (w := w) (Nat.le_refl _) w9 D _ _ hp hD rfl rfl)⟩
    · rintro w9 ⟨h1, h2⟩
      refine ⟨_, results_tmp rfl _ _ _, _, rfl, ?_, h2⟩
      rw [← Hfin.out]
      exact h1
end Go.Proofs.YtldnjnnhfeobdaaGreatDoor
