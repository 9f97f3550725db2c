/- Parts of the proof, joined: Contract of the reference: is a pair in a list? Conditions: lengths below 2^20; Strings and pairs that a law of the seat is given. No condition. -/
import Derived.ChangeMaps5
import Derived.Test.YtldnjnnhfeobdaaGreatDoorG03
import Derived.Test.YtldnjnnhfeobdaaGreatDoorG08
namespace Go.Proofs.YtldnjnnhfeobdaaGreatDoor
set_option linter.all false
set_option linter.unusedSimpArgs false
set_option linter.unusedVariables false
open Go.RowKit Go.Shelf

def pairE : Elt (Int × Int) where
  k := 2
  pos := by decide
  rel _ _ p cs := cs = [.int .i64 p.1, .int .i64 p.2]
  len := by rintro F w x cs rfl; rfl
  one := by rintro F w x cs rfl; simp [Value.oneCell']
  mono := fun _ _ _ _ _ _ _ _ h => h
theorem Sl.pair {w : World} {v : Value} {xs : List (Int × Int)} (h : Sl pairE w v xs) : ∃ A cap, v = .slice A xs.length cap ∧
    ∀ i (hi : i < xs.length), ∃ b off, A = some ⟨b, off, none⟩ ∧ w.cell? ⟨b, off + i * 2, none⟩ = some (.int .i64 xs[i].1) ∧ w.cell? ⟨b, off + i * 2 + 1, none⟩ = some (.int .i64 xs[i].2) := by
  obtain ⟨A, cap, rfl, h⟩ := h
  refine ⟨A, cap, rfl, fun i hi => ?_⟩
  obtain ⟨b, off, cs, hA, _, rfl, hc⟩ := h i xs[i] (List.getElem?_eq_getElem hi)
  exact ⟨b, off, hA, by simpa [pairE] using hc 0 _ rfl, by simpa [pairE] using hc 1 _ rfl⟩
set_option maxRecDepth 100000 in
set_option maxHeartbeats 4000000 in
theorem paired_any (w : World) (v : Value) (l : List (Int × Int)) (a b : Int) (hv : Sl pairE w v l) (hl : l.length ≤ 1048576) :
    Calls Tryz.prog 58 #[v, .int .i64 a, .int .i64 b] w fun e w' => e = .returned (.bool (decide ((a, b) ∈ l))) ∧ w' = w := by
  obtain ⟨A, cap, rfl, hs⟩ := hv.pair
  have Hs := Lib.hid hs
  clear hs hv
  go_enter Tryz.func58, Tryz.ntmps58
  go_wp2_with fail
  go_loopw [7] (fun u wr => ∃ k : Nat, k ≤ l.length ∧ u = .int .i64 k ∧ wr = w ∧ Hid (∀ j (hj : j < l.length), j < k → l[j] ≠ (a, b))) (fun u _ => l.length - (intOf u).toNat)
  case atStart => exact ⟨0, by omega, rfl, rfl, Lib.hid (fun j _ h => by omega)⟩
  case round =>
    obtain ⟨k, hk, rfl, rfl, Hno⟩ := hrel
    by_cases hlt : k < l.length
    · obtain ⟨b1, o1, rfl, c1, c2⟩ := Hs.out k hlt
      have l1 := cell_lt c1
      have i0 : (0 : Int) ≤ (k : Int) := by omega
      have i1 : (k : Int) < (l.length : Int) := by omega
      have hin : l[k] = (a, b) → decide ((a, b) ∈ l) = true := fun e => decide_eq_true (by rw [← e]; exact List.getElem_mem hlt)
      have hnext := fun (h : l[k] ≠ (a, b)) j (hj : j < l.length) (hjk : j < k + 1) => if e : j = k then by subst e; exact h else Hno.out j hj (by omega)
      have Hin := Lib.hid hin
      have Hnext := Lib.hid hnext
      clear hin hnext
      by_cases h1 : l[k].1 = a
      · by_cases h2 : l[k].2 = b
        · have Ht := Lib.hid (Hin.out (Prod.ext h1 h2))
          have q1 : (l[k].1 == a) = true := by simpa using h1
          have q2 : (l[k].2 == b) = true := by simpa using h2
          clear h1 h2
          go_wp2_with fail
          go_ret
          rw [Ht.out]
          exact ⟨rfl, rfl⟩
        · have Hn := Lib.hid (Hnext.out (fun e => h2 (by rw [e])))
          have q1 : (l[k].1 == a) = true := by simpa using h1
          have q2 : (l[k].2 == b) = false := by rw [beq_eq_false_iff_ne]; exact h2
          clear h1 h2
          go_wp2_with fail
          go_roundw
          case rel => exact ⟨k + 1, by omega, by go_num, trivial, Hn⟩
          case measure => simp [intOf]; omega
      · have Hn := Lib.hid (Hnext.out (fun e => h1 (by rw [e])))
        have q1 : (l[k].1 == a) = false := by rw [beq_eq_false_iff_ne]; exact h1
        clear h1
        go_wp2_with fail
        go_roundw
        case rel => exact ⟨k + 1, by omega, by go_num, trivial, Hn⟩
        case measure => simp [intOf]; omega
    · have i1 : ¬ (k : Int) < (l.length : Int) := by omega
      have hf : decide ((a, b) ∈ l) = false := decide_eq_false (fun hm => by
        obtain ⟨j, hj, e⟩ := List.mem_iff_getElem.1 hm
        exact Hno.out j hj (by omega) e)
      have Hf := Lib.hid hf
      clear hf
      go_wp2_with fail
      go_ret
      rw [Hf.out]
      exact ⟨rfl, rfl⟩
end Go.Proofs.YtldnjnnhfeobdaaGreatDoor
/- Strings and pairs that a law of the seat is given. No condition. -/
namespace Go.Proofs.YtldnjnnhfeobdaaGreatDoor
set_option linter.all false
set_option linter.unusedSimpArgs false
set_option linter.unusedVariables false
open Go.RowKit Go.ChangeShapes Go.WideShapes Go.ChangeAt

set_option maxRecDepth 100000 in
theorem open_text {H : Type} {enc : TypeId × Value → H} {W : World} {base : Nat} {v : Value} {d : DataW H} {p : List MemPlace} (hval : Value.okWide Tryz.prog W .any base 9 v) (h : DataW.Trod enc Tryz.prog W 0 (fun _ => true) true 9 v d p) {B : Nat} (hB : B = 1048576) (hb : Rows.uptoBulk d ≤ B) :
    ∃ s, v = .string s ∧ s.size ≤ 1048576 := by
  obtain ⟨s, rfl, rfl, rfl, _⟩ := Go.ChangeMaps.open_string Tryz.underlying9 hval h
  refine ⟨s, rfl, ?_⟩
  simp only [Rows.uptoBulk] at hb
  have : s.data.toList.length = s.size := by simp
  omega
end Go.Proofs.YtldnjnnhfeobdaaGreatDoor
