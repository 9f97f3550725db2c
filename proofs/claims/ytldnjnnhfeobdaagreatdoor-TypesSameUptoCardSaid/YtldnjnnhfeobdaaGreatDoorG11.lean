/- Contract of the reference: the references of a type. Conditions: a fine type. -/
import Derived.Test.YtldnjnnhfeobdaaGreatDoorG07
import Derived.Test.YtldnjnnhfeobdaaGreatDoorG01
import Derived.Test.YtldnjnnhfeobdaaGreatDoorG02
import Derived.Test.YtldnjnnhfeobdaaGreatDoorG03
namespace Go.Proofs.YtldnjnnhfeobdaaGreatDoor
set_option linter.all false
set_option linter.unusedSimpArgs false
set_option linter.unusedVariables false
open Go.RowKit Go.Shelf

theorem sl_none {α : Type} {E : Elt α} {w : World} {n c : Nat} {xs : List α} (h : Sl E w (.slice none n c) xs) : xs = [] := by
  obtain ⟨A, cap, e, h⟩ := h
  cases xs with
  | nil => rfl
  | cons x xs =>
    obtain ⟨b, off, _, hA, _⟩ := h 0 x rfl
    injection e with e1
    rw [hA] at e1
    cases e1
theorem run_append_nothing {P : Program} {w : World} {base size : Nat} {t ty e : TypeId} {i : TypeInfo} (ht : P.underlying t = some (.slice e)) (hi : P.info? e = some i) {v : Value} {n : Nat} {xs : List Value} (h : w.ownsRow base e size v n xs) (c : Nat) :
    (Builtin.append_ #[t, t] ty #[v, .slice none 0 c]).run P w = .ok v w := by
  rcases h.2 with ⟨rfl, rfl⟩ | ⟨g, cap, cur, rfl, _, _, hnc, _⟩
  · simp [Builtin.append_, run_underlying ht, sizeOf, typeInfo, hi, Builtin.lenOf, Builtin.firstCells]
  · simp [Builtin.append_, run_underlying ht, sizeOf, typeInfo, hi, Builtin.lenOf, Builtin.firstCells, hnc, storeCells]
section
variable {P : Program} {ops : Array Oper} {rest : List Oper} {o : Oper} {a : Act} {Q : Exit → Act → World → Prop}
/-- append of all elements of a slice, nil or not -/
theorem own_append_any {α : Type} {F : Nat → Prop} (E : Elt α) (hflat : FlatE E) {W : World} (base : Nat) (hgd : o.guard = none) (s x : Operand) (t e : TypeId) (bytes : Nat)
    (ho : o.op = .call { callee := .builtin .append, args := #[s, x], argTypes := #[t, t] }) (hI : SliceOf P t e E.k bytes)
    (v u : Value) (xs ys : List α) (hs : a.eval s = v) (hx : a.eval x = u)
    (HO : Own F E W base e v xs) (hy : Sl E W u ys) (hbase : base ≤ W.heap.size) (hl : (xs.length + ys.length) * bytes ≤ 140737488355328) (hb0 : 0 < bytes)
    (h : ∀ v1 w1, Own F E w1 base e v1 (xs ++ ys) → W.grownBy w1 v.ownBlock → wpList P ops Q rest (a.put o.dst v1) w1) :
    wpList P ops Q (o :: rest) a W := by
  obtain ⟨A, c, rfl⟩ := hy.len
  cases A with
  | some ad => exact own_append_all E hflat base hgd s x t e bytes ho hI v xs ys ad _ c hs hx HO hy hbase hl hb0 h
  | none =>
    have hnil := sl_none hy
    subst hnil
    have h1 : wpList P ops Q rest (a.put o.dst v) W := h v W (by rw [List.append_nil]; exact HO) (World.grownBy.refl W _)
    obtain ⟨i, z, hi, _⟩ := hI.info
    obtain ⟨rows, _, hown, _⟩ := HO
    refine wpList_plain hgd fun K hK => ?_
    have hrun := run_append_nothing (P := P) (t := t) (ty := o.type) hI.under hi hown c
    unfold Oper.wp
    have hx' : a.eval x = .slice none 0 c := hx
    simp [execOp, ho, resolve, invoke, builtin, hs, hx', hrun, Result.andThen]
    exact hK _ _ h1
end
theorem refsM_le {m : Method} (h : m.args.length ≤ 6) : (refsM m).length ≤ 7 := by
  unfold refsM
  split <;> simp <;> omega
theorem refsM_take_le {l : List Method} (h : ∀ m ∈ l, m.args.length ≤ 6) (h8 : l.length ≤ 8) (k : Nat) : ((l.take k).flatMap refsM).length ≤ 56 := by
  have h1 := flatMap_le refsM 7 (l.take k) (fun m hm => refsM_le (h m (List.mem_of_mem_take hm)))
  have h2 : (l.take k).length ≤ 8 := by rw [List.length_take]; omega
  have := Nat.mul_le_mul_right 7 h2
  omega
set_option maxRecDepth 100000 in
set_option maxHeartbeats 16000000 in
theorem rrefs_any (w : World) (n : Nat) (t : Ty) (vp vm vo : Value) (hof : TyOf w t vp vm vo) (hf : Fine n t) :
    Calls Tryz.prog 40 #[tyV t vp vm vo] w (RetP w (ResSl intE w (refsL t))) := by
  obtain ⟨A1, c1, e1, hp⟩ := hof.parts.part
  obtain ⟨A2, c2, e2, hm⟩ := hof.methods.method
  obtain ⟨A3, c3, e3⟩ := hof.overs.len
  subst e1 e2 e3
  have Hp := Lib.hid hp
  have Hm := Lib.hid hm
  have hpl := hf.parts
  have hml := hf.methods
  have Hargs := Lib.hid hf.args
  have hrs : (refsS t).length ≤ 1 := by unfold refsS; split <;> simp
  clear hof hp hm hf
  unfold tyV
  go_enter Tryz.func40, Tryz.ntmps40
  have hx0 := (Ext.refl w).alloc (.cells #[.int .u8 t.kind, .int .i64 t.low, .int .i64 t.high, .bool t.branded, .string t.brand, .string t.opaq, .int .i64 t.super, .slice A1 t.parts.length c1, .slice A2 t.methods.length c2, .slice A3 t.overs.length c3] 42)
  have hbx := heap_alloc_self w (.cells #[.int .u8 t.kind, .int .i64 t.low, .int .i64 t.high, .bool t.branded, .string t.brand, .string t.opaq, .int .i64 t.super, .slice A1 t.parts.length c1, .slice A2 t.methods.length c2, .slice A3 t.overs.length c3] 42)
  have Hc0 := Lib.hid (heap_cell hbx 0 _ rfl)
  have Hc6 := Lib.hid (heap_cell hbx 6 _ rfl)
  have Hc7 := Lib.hid (heap_cell hbx 7 _ rfl)
  have Hc8 := Lib.hid (heap_cell hbx 8 _ rfl)
  have Hx0 := Lib.hid hx0
  clear hx0 hbx
  go_upto_region 2 with fail
  generalize (w.alloc (.cells #[.int .u8 t.kind, .int .i64 t.low, .int .i64 t.high, .bool t.branded, .string t.brand, .string t.opaq, .int .i64 t.super, .slice A1 t.parts.length c1, .slice A2 t.methods.length c2, .slice A3 t.overs.length c3] 42)) = w1 at *
  generalize w.heap.size = b1 at *
  go_cut [13] (fun s wx => s = .bool (hasSuperB t.kind) ∧ wx = w1)
  case first =>
    have d0 := Hc0.out
    have l0 := cell_lt d0
    by_cases h12 : t.kind = 12
    · have q : (t.kind == 12) = true := by simpa using h12
      have hs : hasSuperB t.kind = true := by unfold hasSuperB; simp [h12]
      have Hs := Lib.hid hs
      clear hs h12
      go_wp2_with fail
      go_meet
      rw [Hs.out]
      exact ⟨rfl, rfl⟩
    · have q : (t.kind == 12) = false := by rw [beq_eq_false_iff_ne]; exact h12
      by_cases h13 : t.kind = 13
      · have q' : (t.kind == 13) = true := by simpa using h13
        have hs : hasSuperB t.kind = true := by unfold hasSuperB; simp [h13]
        have Hs := Lib.hid hs
        clear hs h12 h13
        go_wp2_with fail
        go_meet
        rw [Hs.out]
        exact ⟨rfl, rfl⟩
      · have q' : (t.kind == 13) = false := by rw [beq_eq_false_iff_ne]; exact h13
        have hs : hasSuperB t.kind = false := by unfold hasSuperB; simp [h12, h13]
        have Hs := Lib.hid hs
        clear hs h12 h13
        go_wp2_with fail
        go_meet
        rw [Hs.out]
        exact ⟨rfl, rfl⟩
  case rest =>
    obtain ⟨rfl, rfl⟩ := hcut
    obtain ⟨w1, rfl⟩ : ∃ w1 : World, w1 = wc := ⟨_, rfl⟩
    go_upto_if 13 with fail
    go_cut [3] (fun o wx => Hid (Ext w1 wx) ∧ Hid (Own (New w1) intE wx w1.heap.size 3 o (refsS t)))
    case first =>
      have d6 := Hc6.out
      have l6 := cell_lt d6
      cases hs : hasSuperB t.kind with
      | true =>
        have hre : refsS t = [] ++ [t.super] := by unfold refsS; rw [hs]; rfl
        have Hre := Lib.hid hre
        clear hre hs
        go_wp2_with (at_builtin; refine own_append (F := New w1) intE w1.heap.size rfl _ _ 24 3 8 rfl slice24 _ [] t.super [.int .i64 t.super] rfl rfl (Own.nil _ _ _ _ _) rfl ?c1 ?c2 ?c3 ?_)
        case c1 => exact Nat.le_refl _
        case c2 => simp
        case c3 => decide
        intro v2 w2 hown2 hg2
        have hx2 : Ext w1 w2 := Below.grown (Ext.refl _) hg2 (Nat.le_refl _) (fun k hk => by cases hk)
        go_wp2_with fail
        go_meet
        rw [Hre.out]
        exact ⟨Lib.hid hx2, Lib.hid hown2⟩
      | false =>
        have hre : refsS t = [] := by unfold refsS; rw [hs]; rfl
        have Hre := Lib.hid hre
        clear hre hs
        go_wp2_with fail
        go_meet
        rw [Hre.out]
        exact ⟨Lib.hid (Ext.refl _), Lib.hid (Own.nil _ _ _ _ _)⟩
    case rest =>
      obtain ⟨Hxa, Howna⟩ := hcut
      go_wp2_with fail
      go_loopw [3, 4] (fun o u wr => ∃ k : Nat, k ≤ t.parts.length ∧ u = .int .i64 k ∧ Hid (Ext w1 wr) ∧ Hid (Own (New w1) intE wr w1.heap.size 3 o (refsS t ++ (t.parts.map Part.type).take k))) (fun _ u _ => t.parts.length - (intOf u).toNat)
      case atStart => exact ⟨0, by omega, rfl, Hxa, by simpa using Howna⟩
      case round =>
        clear Hxa Howna
        obtain ⟨k, hk, rfl, Hx, Hown⟩ := hrel
        have c7 := Hx.out.cell Hc7.out
        have l7 := cell_lt c7
        by_cases hlt : k < t.parts.length
        · obtain ⟨b, off, rfl, p0, p1⟩ := Hp.out k hlt
          replace p1 := (Hx0.out.trans Hx.out).cell p1
          have lp := cell_lt p1
          have i0 : (0 : Int) ≤ (k : Int) := by omega
          have i1 : (k : Int) < (t.parts.length : Int) := by omega
          have hsn := take_map_snoc Part.type t.parts k hlt
          have Hsn := Lib.hid hsn
          have Hsz := Lib.hid Hx.out.size
          clear p0 hsn
          go_wp2_with (at_builtin; refine own_append intE w1.heap.size rfl _ _ 24 3 8 rfl slice24 _ _ t.parts[k].type [.int .i64 t.parts[k].type] rfl rfl Hown.out rfl ?c1 ?c2 ?c3 ?_)
          case c1 => exact Hsz.out
          case c2 => simp; omega
          case c3 => decide
          intro v2 w2 hown2 hg2
          have hx2 : Ext w1 w2 := Below.grown Hx.out hg2 Hsz.out (fun k hk => (Hown.out.lt k hk).1)
          rw [← Hsn.out] at hown2
          have Hown2 := Lib.hid hown2
          have Hx2 := Lib.hid hx2
          clear hown2 hg2 hx2
          go_wp2_with fail
          go_roundw
          case rel => exact ⟨k + 1, by omega, by go_num, Hx2, Hown2⟩
          case measure => simp [intOf]; omega
        · have hkn : k = t.parts.length := by omega
          subst hkn
          rw [List.take_of_length_le (by simp)] at Hown
          clear hk hlt
          go_wp2_with fail
          go_loopw [3, 5] (fun o u wr => ∃ k : Nat, k ≤ t.methods.length ∧ u = .int .i64 k ∧ Hid (Ext w1 wr) ∧ Hid (Own (New w1) intE wr w1.heap.size 3 o (refsS t ++ t.parts.map Part.type ++ (t.methods.take k).flatMap refsM))) (fun _ u _ => t.methods.length - (intOf u).toNat)
          case atStart => exact ⟨0, by omega, rfl, Hx, by simpa using Hown⟩
          case round =>
            clear Hown Hx c7 l7
            obtain ⟨k, hk, rfl, Hx, Hown⟩ := hrel
            have c8 := Hx.out.cell Hc8.out
            have l8 := cell_lt c8
            by_cases hlt : k < t.methods.length
            · obtain ⟨b, off, va, vr, rfl, ha, hr, m0, m1, m2, m3, m4⟩ := Hm.out k hlt
              have hma := Hargs.out _ (List.getElem_mem hlt)
              have hfl := flat_take_one refsM t.methods k hlt
              have hle := refsM_take_le Hargs.out hml k
              generalize t.methods[k] = m at *
              obtain ⟨Aa, ca, ea⟩ := ha.len
              subst ea
              have M2 := Lib.hid (Hx0.out.cell m2)
              replace m1 := (Hx0.out.trans Hx.out).cell m1
              replace ha := ha.mono (Hx0.out.trans Hx.out)
              have lm := cell_lt m1
              have i0 : (0 : Int) ≤ (k : Int) := by omega
              have i1 : (k : Int) < (t.methods.length : Int) := by omega
              have hpl1 : (refsS t ++ t.parts.map Part.type).length ≤ 9 := by simp; omega
              have Ha := Lib.hid ha
              have Hfl := Lib.hid hfl
              have Hsz := Lib.hid Hx.out.size
              clear ha hr hfl m0 m3 m4 m2
              obtain ⟨wo, rfl⟩ : ∃ wo : World, wo = wr := ⟨_, rfl⟩
              go_upto_region 11 with fail
              go_cut [3] (fun o wx => Hid (Ext w1 wx) ∧ Hid (Own (New w1) intE wx w1.heap.size 3 o (refsS t ++ t.parts.map Part.type ++ (t.methods.take k).flatMap refsM ++ m.args)))
              case first =>
                go_wp2_with (at_builtin; refine own_append_any (F := New w1) intE flat_int w1.heap.size rfl _ _ 24 3 8 rfl slice24 _ _ _ m.args rfl rfl Hown.out Ha.out ?c1 ?c2 ?c3 ?_)
                case c1 => exact Hsz.out
                case c2 => simp only [List.length_append] at hpl1 hle ⊢; omega
                case c3 => decide
                intro v2 w2 hown2 hg2
                have hx2 : Ext w1 w2 := Below.grown Hx.out hg2 Hsz.out (fun k hk => (Hown.out.lt k hk).1)
                have Hx2 := Lib.hid hx2
                have Hown2 := Lib.hid hown2
                clear hx2 hown2 hg2
                go_wp2_with fail
                go_meet
                exact ⟨Hx2, by simpa [Hid] using Hown2⟩
              case rest =>
                clear Hown Hx c8 l8 m1 lm
                obtain ⟨Hx, Hown⟩ := hcut
                have c8 := Hx.out.cell Hc8.out
                have l8 := cell_lt c8
                have m2 := Hx.out.cell M2.out
                have lm := cell_lt m2
                by_cases hres : 0 ≤ m.result
                · have hre : refsM m = m.args ++ [m.result] := by unfold refsM; rw [if_pos hres]
                  have Hre := Lib.hid hre
                  clear hre
                  go_wp2_with (at_builtin; refine own_append (F := New w1) intE w1.heap.size rfl (.tmp 59) (.tmp 67) 24 3 8 rfl slice24 _ _ m.result [.int .i64 m.result] rfl rfl Hown.out rfl ?c1 ?c2 ?c3 ?_)
                  case c1 => exact Hx.out.size
                  case c2 => simp only [List.length_append] at hpl1 hle ⊢; omega
                  case c3 => decide
                  intro v2 w2 hown2 hg2
                  have hx2 : Ext w1 w2 := Below.grown Hx.out hg2 Hx.out.size (fun k hk => (Hown.out.lt k hk).1)
                  have Hx2 := Lib.hid hx2
                  have Hown2 : Hid (Own (New w1) intE w2 w1.heap.size 3 v2 (refsS t ++ t.parts.map Part.type ++ (t.methods.take (k + 1)).flatMap refsM)) := by
                    rw [Hfl.out, Hre.out]; simpa [Hid] using hown2
                  clear hx2 hown2 hg2
                  go_wp2_with fail
                  go_roundw
                  case rel => exact ⟨k + 1, by omega, by go_num, Hx2, Hown2⟩
                  case measure => simp [intOf]; omega
                · have hre : refsM m = m.args := by unfold refsM; rw [if_neg hres, List.append_nil]
                  have e : refsS t ++ t.parts.map Part.type ++ (t.methods.take k).flatMap refsM ++ m.args = refsS t ++ t.parts.map Part.type ++ (t.methods.take (k + 1)).flatMap refsM := by
                    rw [Hfl.out, hre]; simp
                  have hown2 := Hown.out
                  rw [e] at hown2
                  have Hown2 := Lib.hid hown2
                  clear e hown2
                  clear hre
                  go_wp2_with fail
                  go_roundw
                  case rel => exact ⟨k + 1, by omega, by go_num, Hx, Hown2⟩
                  case measure => simp [intOf]; omega
            · have hkn : k = t.methods.length := by omega
              subst hkn
              rw [List.take_length] at Hown
              clear hk hlt
              have hsz := Hx0.out.size
              go_wp2_with fail
              go_ret
              refine ⟨_, rfl, ?_, Hx0.out.trans Hx.out⟩
              have he : refsL t = refsS t ++ t.parts.map Part.type ++ t.methods.flatMap refsM := by
                unfold refsL
                rw [List.append_assoc]
              rw [he]
              exact (Hown.out.sl (fun b hb => hb)).mono (fun _ _ _ => rfl) (fun b hb _ => by unfold New at hb ⊢; omega)
end Go.Proofs.YtldnjnnhfeobdaaGreatDoor
