import Derived.Test.YtfcoigcenheefaaDoorPkOp
import Derived.Test.YtfcoigcenheefaaDoorEvPrint
import Derived.Lib.SliceRun
set_option linter.unusedVariables false
set_option linter.unusedSimpArgs false
namespace Go.Proofs.YtfcoigcenheefaaDoor
open Go.RowKit
set_option maxHeartbeats 1000000 in
theorem numbers_any (w : World) (v1 v2 : Value) (xs ys : List Int) (h1 : ListAt (Value.int .i64) 0 w v1 xs) (h2 : ListAt (Value.int .i64) 0 w v2 ys) (hx : xs.length ≤ 1000000) (hy : ys.length ≤ 1000000) :
    Calls Tryd.prog 37 #[v1, v2] w fun e w' => e = .returned (.bool (decide (xs = ys))) ∧ ∃ n, w' = w.drewN n := by
  obtain ⟨a1, c1, rfl, h1⟩ := h1
  obtain ⟨a2, c2, rfl, h2⟩ := h2
  by_cases hl : xs.length = ys.length
  · have hb : ((xs.length : Int) != (ys.length : Int)) = false := by simp; omega
    obtain ⟨n, hn⟩ : ∃ n, n = ys.length := ⟨_, rfl⟩
    rw [← hn] at hl hb ⊢
    rw [hl] at h1 hb hx ⊢
    rw [← hn] at h2
    have HL := Lib.hid hl
    have HN := Lib.hid hn
    have H1 := Lib.hid h1
    have H2 := Lib.hid h2
    clear hl hn h1 h2
    go_enter Tryd.func37, Tryd.ntmps37
    go_wp2_with fail
    go_loopw [5] (fun s5 wr => ∃ k : Nat, k ≤ n ∧ s5 = .int .i64 k ∧ Hid (sameTo 0 xs ys k = true) ∧ ∃ m, wr = w.drewN m) (fun s5 _ => n - (intOf s5).toNat)
    case atStart => exact ⟨0, Nat.zero_le _, rfl, rfl, 0, rfl⟩
    case round =>
      obtain ⟨k, hk, rfl, hs, m, rfl⟩ := hrel
      by_cases hlt : k < n
      · obtain ⟨b1, o1, rfl, q1⟩ := H1.out (by omega)
        obtain ⟨b2, o2, rfl, q2⟩ := H2.out (by omega)
        have d1 := q1 k hlt
        have d2 := q2 k hlt
        clear q1 q2
        obtain ⟨x, hx0⟩ : ∃ x, x = xs.getD k 0 := ⟨_, rfl⟩
        obtain ⟨y, hy0⟩ : ∃ y, y = ys.getD k 0 := ⟨_, rfl⟩
        rw [← hx0] at d1
        rw [← hy0] at d2
        have HX := Lib.hid hx0
        have HY := Lib.hid hy0
        clear hx0 hy0
        have k0 : (0 : Int) ≤ (k : Int) := by omega
        have k1 : (k : Int) < (n : Int) := by omega
        by_cases hxy : x = y
        · have hb2 : (x != y) = false := by simpa using hxy
          have HXY := Lib.hid hxy
          clear hxy
          go_wp2_with fail
          go_quiet (fail)
          go_wp2_with fail
          go_roundw
          case rel =>
            refine ⟨k + 1, by omega, by go_num, ?_, _, rfl⟩
            show _ = _
            rw [sameTo_succ, hs.out, Bool.true_and, ← HX.out, ← HY.out]; simpa using HXY.out
          case measure => simp [intOf]; omega
        · have hb2 : (x != y) = true := by simpa using hxy
          go_wp2_with fail
          go_quiet (fail)
          go_wp2_with fail
          go_ret
          refine ⟨?_, _, World.drewN_drewN _ _ _⟩
          rw [sameTo_false 0 xs ys (by have := HL.out; have := HN.out; omega) k (by have := HL.out; omega) (by rw [← HX.out, ← HY.out]; exact hxy)]
          rfl
      · go_wp2_with fail
        go_ret
        refine ⟨?_, m, rfl⟩
        have e : k = xs.length := by have := HL.out; omega
        have h := hs.out
        rw [e, sameTo_eq 0 xs ys (by have := HL.out; have := HN.out; omega)] at h
        rw [h]; rfl
  · have hb : ((xs.length : Int) != (ys.length : Int)) = true := by simp; omega
    have hne : decide (xs = ys) = false := by simp; rintro rfl; exact hl rfl
    have HNE := Lib.hid hne
    clear hl h1 h2 hne
    go_enter Tryd.func37, Tryd.ntmps37
    go_wp2_with fail
    go_ret
    exact ⟨by rw [HNE.out]; rfl, 0, rfl⟩

/-- An event's cells. -/

def evC (e : Ev) : List Value := [.int .i64 e.kind, .int .i64 e.g, .int .i64 e.fn, .int .i64 e.pc, .int .i64 e.n]
def flatE : List Ev → List Value
  | [] => []
  | e :: l => evC e ++ flatE l
theorem flatE_len : ∀ l : List Ev, (flatE l).length = l.length * 5
  | [] => rfl
  | e :: l => by simp [flatE, evC, flatE_len l]; omega
theorem flatE_app (l m : List Ev) : flatE (l ++ m) = flatE l ++ flatE m := by
  induction l with
  | nil => rfl
  | cons e l ih => simp [flatE, ih]
theorem flatE_get : ∀ (l : List Ev) (i j : Nat), i < l.length → j < 5 → (flatE l)[i * 5 + j]? = (evC (l.getD i default))[j]?
  | [], i, j, h, _ => by simp at h
  | e :: l, 0, j, _, hj => by
    rw [flatE, List.getElem?_append_left (by simp [evC]; omega)]; simp
  | e :: l, i + 1, j, h, hj => by
    rw [flatE, List.getElem?_append_right (by simp [evC]; omega), show (i + 1) * 5 + j - (evC e).length = i * 5 + j by simp [evC]; omega, flatE_get l i j (by simpa using h) hj]
    simp
theorem evs_of_row {w : World} {base : Nat} {v : Value} {n : Nat} {l : List Ev} (h : w.ownsRow base 38 5 v n (flatE l)) (hn : n = l.length) : EvsAt w v l := by
  subst hn
  obtain ⟨a, c, rfl⟩ := row_form h
  refine ⟨a, c, rfl, fun h0 => ?_⟩
  obtain ⟨g, c', h1, _, _⟩ := h.form h0
  simp at h1
  obtain ⟨rfl, rfl⟩ := h1
  refine ⟨g, 0, rfl, fun i hi => ?_⟩
  have one : ∀ j, j < 5 → w.cell? ⟨g, 0 + i * 5 + j, none⟩ = (evC (l.getD i default))[j]? := fun j hj => by
    rw [Nat.zero_add, h.cellAt _ (by omega), flatE_get l i j hi hj]
  exact ⟨one 0 (by decide), one 1 (by decide), one 2 (by decide), one 3 (by decide), one 4 (by decide)⟩
def keepE (g : Int) (e : Ev) : Bool := decide (e.g = g)
set_option maxRecDepth 100000 in
theorem ofC_any (w : World) (x : Ev) (B : Nat) (g : Int) (hB : w.cell? ⟨B, 0, none⟩ = some (.int .i64 g)) : Calls Tryd.prog 82 #[evV x, .pointer (some ⟨B, 0, none⟩)] w fun e w' => e = .returned (.bool (!keepE g x)) ∧ Below w.heap.size w w' := by
  obtain ⟨kind, g1, fn, pc, n⟩ := x
  simp only [evV]
  have hlt := block_lt_of_cell hB
  have hne : B ≠ w.heap.size := by have : B < w.heap.size := hlt; omega
  have HK := Lib.hid (show (!keepE g ⟨kind, g1, fn, pc, n⟩) = (g1 != g) by simp [keepE, bne, BEq.beq])
  go_enter Tryd.func82, Tryd.ntmps82
  go_wp2_with fail
  go_ret
  exact ⟨by rw [HK.out]; rfl, (Below.refl _ _).alloc (Nat.le_refl _) _⟩
set_option maxRecDepth 100000 in
set_option maxHeartbeats 1000000 in
theorem idx_any (w : World) (v : Value) (l : List Ev) (h : EvsAt w v l) (hl : l.length ≤ 1000) (B : Nat) (g : Int) (hB : w.cell? ⟨B, 0, none⟩ = some (.int .i64 g)) :
    Calls Tryd.prog 149 #[v, .func (.func 82) #[] #[.pointer (some ⟨B, 0, none⟩)]] w fun e w' => (∃ r : Int, e = .returned (.int .i64 r) ∧ ((r = -1 ∧ ∀ k, k < l.length → keepE g (l.getD k default) = true) ∨ ∃ k : Nat, k < l.length ∧ r = k ∧ keepE g (l.getD k default) = false ∧ ∀ t, t < k → keepE g (l.getD t default) = true)) ∧ Below w.heap.size w w' := by
  obtain ⟨a, c, rfl, h2⟩ := h
  obtain ⟨n, hn⟩ : ∃ n, n = l.length := ⟨_, rfl⟩
  rw [← hn] at hl ⊢
  have HN := Lib.hid hn
  have H2 := Lib.hid h2
  have HB := Lib.hid hB
  clear hn h2 hB
  go_enter Tryd.func149, Tryd.ntmps149
  go_wp2_with fail
  go_loopw [5, 8] (fun s5 s8 wr => ∃ k : Nat, k ≤ n ∧ s8 = .int .i64 k ∧ Hid (∀ t, t < k → keepE g (l.getD t default) = true) ∧ Hid (Below w.heap.size w wr)) (fun _ s8 _ => n - (intOf s8).toNat)
  case atStart => exact ⟨0, Nat.zero_le _, rfl, Lib.hid (fun t ht => by omega), Lib.hid (Below.refl _ _)⟩
  case round =>
    obtain ⟨k, hk, rfl, hall, hb⟩ := hrel
    by_cases hlt : k < n
    · have hkl : k < l.length := by have := HN.out; omega
      obtain ⟨b1, o1, rfl, q1⟩ := H2.out (by omega)
      have d1 := (q1 k hkl).below hb.out (Nat.le_refl _)
      clear q1
      obtain ⟨x, hx0⟩ : ∃ x, x = l.getD k default := ⟨_, rfl⟩
      rw [← hx0] at d1
      have HX := Lib.hid hx0
      clear hx0
      have hC := Lib.hid (ofC_any wr x B g (below_cell hb.out (Nat.le_refl _) HB.out))
      obtain ⟨x1, x2, x3, x4, x5⟩ := x
      obtain ⟨p0, p1, p2, p3, p4⟩ := d1
      have k0 : (0 : Int) ≤ (k : Int) := by omega
      have k1 : (k : Int) < (n : Int) := by omega
      go_wp2_with fail
      refine hC.out.mono ?_
      rintro e w2 ⟨rfl, hb2⟩
      have hb3 := Lib.hid (hb.out.trans (hb2.mono hb.out.size))
      clear hb2
      rename_i K1 K2 hK2
      refine hK2 _ _ ?_
      clear hK2
      obtain ⟨r, hr⟩ : ∃ r, keepE g ⟨x1, x2, x3, x4, x5⟩ = r := ⟨_, rfl⟩
      rw [hr]
      have HR := Lib.hid hr
      clear hr
      cases r
      · simp only [Bool.not_false]
        go_wp2_with fail
        go_ret
        exact ⟨⟨k, rfl, .inr ⟨k, hlt, rfl, by rw [← HX.out]; exact HR.out, hall.out⟩⟩, hb3.out⟩
      · simp only [Bool.not_true]
        go_wp2_with fail
        go_roundw
        case rel =>
          refine ⟨k + 1, by omega, by go_num, Lib.hid (fun t ht => ?_), hb3⟩
          by_cases e : t = k
          · subst e; rw [← HX.out]; exact HR.out
          · exact hall.out t (by omega)
        case measure => simp [intOf]; omega
    · have e : k = n := by omega
      have HE := Lib.hid e
      clear e
      go_wp2_with fail
      go_ret
      exact ⟨⟨-1, rfl, .inl ⟨rfl, fun t ht => hall.out t (by have := HE.out; omega)⟩⟩, hb.out⟩
theorem info38 : (Tryd.prog.info? 38).map (fun i => (i.zero, i.size, i.bytes)) = some (some (.agg #[.int .i64 0, .int .i64 0, .int .i64 0, .int .i64 0, .int .i64 0]), 5, 40) := by kernel_rfl
end Go.Proofs.YtfcoigcenheefaaDoor
