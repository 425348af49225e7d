import Derived.Test.YtfcoigcenheefaaDoorGapA
set_option linter.unusedVariables false
set_option linter.unusedSimpArgs false
namespace Go.Proofs.YtfcoigcenheefaaDoor
open Go.RowKit
def eqB (a b : Ev) : Bool := a.kind == b.kind && (a.g == b.g && (a.fn == b.fn && (a.pc == b.pc && a.n == b.n)))
theorem eqB_iff (a b : Ev) : eqB a b = true ↔ a = b := by
  cases a; cases b; simp [eqB]
theorem eq38 (a1 a2 a3 a4 a5 b1 b2 b3 b4 b5 : Int) (w : World) : (Op.equalIn 10000 38 (.agg #[.int .i64 a1, .int .i64 a2, .int .i64 a3, .int .i64 a4, .int .i64 a5]) (.agg #[.int .i64 b1, .int .i64 b2, .int .i64 b3, .int .i64 b4, .int .i64 b5])).run Tryd.prog w = .ok (eqB ⟨a1, a2, a3, a4, a5⟩ ⟨b1, b2, b3, b4, b5⟩) w := by
  have u3 := Tryd.underlying3
  have u2 := Tryd.underlying2
  have hS : Tryd.prog.underlying 38 = some (.struct (Tryd.prog.fieldsOf 38)) := by kernel_rfl
  have hp : Tryd.prog.stoodInHeld 38 = false := by kernel_rfl
  rw [show (10000 : Nat) = 9999 + 1 from rfl, run_equalIn_agg w 9999 38 _ _ hS hp]
  simp only [Program.fieldsOf, Tryd.underlying38]
  go_simp
  by_cases h1 : a1 = b1 <;> by_cases h2 : a2 = b2 <;> by_cases h3 : a3 = b3 <;> by_cases h4 : a4 = b4 <;> by_cases h5 : a5 = b5 <;> simp [eqB, h1, h2, h3, h4, h5]
def sameEv (xs ys : List Ev) (k : Nat) : Bool := (List.range k).all fun i => eqB (xs.getD i default) (ys.getD i default)
theorem sameEv_succ (xs ys : List Ev) (k : Nat) : sameEv xs ys (k + 1) = (sameEv xs ys k && eqB (xs.getD k default) (ys.getD k default)) := by
  unfold sameEv; rw [List.range_succ, List.all_append]; simp
/-- Are two lists of events the same? -/
def evsB (xs ys : List Ev) : Bool := decide (xs.length = ys.length) && sameEv xs ys xs.length
theorem sameEv_false (xs ys : List Ev) (n k : Nat) (hk : k < n) (h : eqB (xs.getD k default) (ys.getD k default) = false) : sameEv xs ys n = false := by
  unfold sameEv
  rw [List.all_eq_false]
  exact ⟨k, by simpa using hk, by rw [h]; simp⟩
theorem evsame_any (w : World) (v1 v2 : Value) (xs ys : List Ev) (h1 : EvsAt w v1 xs) (h2 : EvsAt w v2 ys) (hx : xs.length ≤ 1000000) (hy : ys.length ≤ 1000000) :
    Calls Tryd.prog 28 #[v1, v2] w fun e w' => e = .returned (.bool (evsB xs ys)) ∧ ∃ n, w' = w.drewN n := by
  obtain ⟨a1, c1, rfl, h1⟩ := h1
  obtain ⟨a2, c2, rfl, h2⟩ := h2
  by_cases hl : xs.length = ys.length
  · have hb : ((xs.length : Int) != (ys.length : Int)) = false := by simp; omega
    obtain ⟨n, hn⟩ : ∃ n, n = ys.length := ⟨_, rfl⟩
    rw [← hn] at hl hb ⊢
    rw [hl] at h1 hb hx ⊢
    rw [← hn] at h2
    have HL := Lib.hid hl
    have HN := Lib.hid hn
    have H1 := Lib.hid h1
    have H2 := Lib.hid h2
    clear hl hn h1 h2
    go_enter Tryd.func28, Tryd.ntmps28
    go_wp2_with fail
    go_loopw [5] (fun s5 wr => ∃ k : Nat, k ≤ n ∧ s5 = .int .i64 k ∧ Hid (sameEv xs ys k = true) ∧ ∃ m, wr = w.drewN m) (fun s5 _ => n - (intOf s5).toNat)
    case atStart => exact ⟨0, Nat.zero_le _, rfl, rfl, 0, rfl⟩
    case round =>
      obtain ⟨k, hk, rfl, hs, m, rfl⟩ := hrel
      by_cases hlt : k < n
      · obtain ⟨b1, o1, rfl, q1⟩ := H1.out (by omega)
        obtain ⟨b2, o2, rfl, q2⟩ := H2.out (by omega)
        have d1 := q1 k hlt
        have d2 := q2 k hlt
        clear q1 q2
        obtain ⟨x, hx0⟩ : ∃ x, x = xs.getD k default := ⟨_, rfl⟩
        obtain ⟨y, hy0⟩ : ∃ y, y = ys.getD k default := ⟨_, rfl⟩
        rw [← hx0] at d1
        rw [← hy0] at d2
        have HX := Lib.hid hx0
        have HY := Lib.hid hy0
        clear hx0 hy0
        obtain ⟨x1, x2, x3, x4, x5⟩ := x
        obtain ⟨y1, y2, y3, y4, y5⟩ := y
        obtain ⟨p0, p1, p2, p3, p4⟩ := d1
        obtain ⟨r0, r1, r2, r3, r4⟩ := d2
        have k0 : (0 : Int) ≤ (k : Int) := by omega
        have k1 : (k : Int) < (n : Int) := by omega
        obtain ⟨bq, hbq⟩ : ∃ bq, bq = eqB ⟨x1, x2, x3, x4, x5⟩ ⟨y1, y2, y3, y4, y5⟩ := ⟨_, rfl⟩
        have hE := fun w => eq38 x1 x2 x3 x4 x5 y1 y2 y3 y4 y5 w
        rw [← hbq] at hE
        have HB := Lib.hid hbq
        clear hbq
        cases bq
        · go_wp2_with fail
          go_quiet (fail)
          go_wp2_with fail
          go_ret
          refine ⟨?_, _, World.drewN_drewN _ _ _⟩
          rw [evsB, sameEv_false xs ys _ k (by have := HL.out; omega) (by rw [← HX.out, ← HY.out]; exact HB.out.symm)]
          simp
        · go_wp2_with fail
          go_quiet (fail)
          go_wp2_with fail
          go_roundw
          case rel =>
            refine ⟨k + 1, by omega, by go_num, ?_, _, rfl⟩
            show _ = _
            rw [sameEv_succ, hs.out, Bool.true_and, ← HX.out, ← HY.out]; exact HB.out.symm
          case measure => simp [intOf]; omega
      · go_wp2_with fail
        go_ret
        refine ⟨?_, m, rfl⟩
        have e : k = n := by omega
        have h := hs.out
        rw [e] at h
        rw [evsB, HL.out, h, ← HN.out]; simp
  · have hb : ((xs.length : Int) != (ys.length : Int)) = true := by simp; omega
    have hne : evsB xs ys = false := by rw [evsB]; simp [hl]
    have HNE := Lib.hid hne
    clear hl h1 h2 hne
    go_enter Tryd.func28, Tryd.ntmps28
    go_wp2_with fail
    go_ret
    exact ⟨by rw [HNE.out]; rfl, 0, rfl⟩
theorem evequal_any (w : World) (v1 v2 : Value) (xs ys : List Ev) (h1 : EvsAt w v1 xs) (h2 : EvsAt w v2 ys) (hx : xs.length ≤ 1000000) (hy : ys.length ≤ 1000000) :
    Calls Tryd.prog 75 #[v1, v2] w fun e w' => e = .returned (.bool (evsB xs ys)) ∧ ∃ n, w' = w.drewN n := by
  obtain ⟨a1, c1, rfl, h1⟩ := h1
  obtain ⟨a2, c2, rfl, h2⟩ := h2
  by_cases hl : xs.length = ys.length
  · have hb : ((xs.length : Int) != (ys.length : Int)) = false := by simp; omega
    obtain ⟨n, hn⟩ : ∃ n, n = ys.length := ⟨_, rfl⟩
    rw [← hn] at hl hb ⊢
    rw [hl] at h1 hb hx ⊢
    rw [← hn] at h2
    have HL := Lib.hid hl
    have HN := Lib.hid hn
    have H1 := Lib.hid h1
    have H2 := Lib.hid h2
    clear hl hn h1 h2
    go_enter Tryd.func75, Tryd.ntmps75
    go_wp2_with fail
    go_loopw [5, 13] (fun s5 s13 wr => ∃ k : Nat, k ≤ n ∧ s13 = .int .i64 k ∧ Hid (sameEv xs ys k = true) ∧ ∃ m, wr = w.drewN m) (fun _ s13 _ => n - (intOf s13).toNat)
    case atStart => exact ⟨0, Nat.zero_le _, rfl, rfl, 0, rfl⟩
    case round =>
      obtain ⟨k, hk, rfl, hs, m, rfl⟩ := hrel
      by_cases hlt : k < n
      · obtain ⟨b1, o1, rfl, q1⟩ := H1.out (by omega)
        obtain ⟨b2, o2, rfl, q2⟩ := H2.out (by omega)
        have d1 := q1 k hlt
        have d2 := q2 k hlt
        clear q1 q2
        obtain ⟨x, hx0⟩ : ∃ x, x = xs.getD k default := ⟨_, rfl⟩
        obtain ⟨y, hy0⟩ : ∃ y, y = ys.getD k default := ⟨_, rfl⟩
        rw [← hx0] at d1
        rw [← hy0] at d2
        have HX := Lib.hid hx0
        have HY := Lib.hid hy0
        clear hx0 hy0
        obtain ⟨x1, x2, x3, x4, x5⟩ := x
        obtain ⟨y1, y2, y3, y4, y5⟩ := y
        obtain ⟨p0, p1, p2, p3, p4⟩ := d1
        obtain ⟨r0, r1, r2, r3, r4⟩ := d2
        have k0 : (0 : Int) ≤ (k : Int) := by omega
        have k1 : (k : Int) < (n : Int) := by omega
        obtain ⟨bq, hbq⟩ : ∃ bq, bq = eqB ⟨x1, x2, x3, x4, x5⟩ ⟨y1, y2, y3, y4, y5⟩ := ⟨_, rfl⟩
        have hE := fun w => eq38 x1 x2 x3 x4 x5 y1 y2 y3 y4 y5 w
        rw [← hbq] at hE
        have HB := Lib.hid hbq
        clear hbq
        cases bq
        · go_wp2_with fail
          go_quiet (fail)
          go_wp2_with fail
          go_ret
          refine ⟨?_, _, World.drewN_drewN _ _ _⟩
          rw [evsB, sameEv_false xs ys _ k (by have := HL.out; omega) (by rw [← HX.out, ← HY.out]; exact HB.out.symm)]
          simp
        · go_wp2_with fail
          go_quiet (fail)
          go_wp2_with fail
          go_roundw
          case rel =>
            refine ⟨k + 1, by omega, by go_num, ?_, _, rfl⟩
            show _ = _
            rw [sameEv_succ, hs.out, Bool.true_and, ← HX.out, ← HY.out]; exact HB.out.symm
          case measure => simp [intOf]; omega
      · go_wp2_with fail
        go_ret
        refine ⟨?_, m, rfl⟩
        have e : k = n := by omega
        have h := hs.out
        rw [e] at h
        rw [evsB, HL.out, h, ← HN.out]; simp
  · have hb : ((xs.length : Int) != (ys.length : Int)) = true := by simp; omega
    have hne : evsB xs ys = false := by rw [evsB]; simp [hl]
    have HNE := Lib.hid hne
    clear hl h1 h2 hne
    go_enter Tryd.func75, Tryd.ntmps75
    go_wp2_with fail
    go_ret
    exact ⟨by rw [HNE.out]; rfl, 0, rfl⟩
theorem esame_any (w : World) (v1 v2 : Value) (xs ys : List Ev) (h1 : EvsAt w v1 xs) (h2 : EvsAt w v2 ys) (hx : xs.length ≤ 1000000) (hy : ys.length ≤ 1000000) :
    Calls Tryd.prog 27 #[v1, v2] w fun e w' => e = .returned (.bool (evsB xs ys)) ∧ ∃ n, w' = w.drewN n := by
  have HC := Lib.hid (evequal_any w v1 v2 xs ys h1 h2 hx hy)
  obtain ⟨a1, c1, rfl, _⟩ := h1
  obtain ⟨a2, c2, rfl, _⟩ := h2
  rename_i q1 q2
  clear q1 q2
  go_enter Tryd.func27, Tryd.ntmps27
  go_wp2_with fail
  refine HC.out.mono ?_
  rintro e w1 ⟨rfl, m, rfl⟩
  rename_i K1 K2 hK2
  refine hK2 _ _ ?_
  clear hK2
  go_wp2_with fail
  go_ret
  exact ⟨rfl, m, rfl⟩
end Go.Proofs.YtfcoigcenheefaaDoor
