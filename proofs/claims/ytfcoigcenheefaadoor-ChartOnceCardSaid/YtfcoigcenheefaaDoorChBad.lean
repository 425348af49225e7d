import Derived.Test.YtfcoigcenheefaaDoorPkIdx
import Derived.Test.YtfcoigcenheefaaDoorInv
set_option linter.unusedVariables false
set_option linter.unusedSimpArgs false
namespace Go.Proofs.YtfcoigcenheefaaDoor
open Go.RowKit
def okE (e : Ev) : Bool := decide (1 ≤ e.g) && decide (e.g ≤ 64)
set_option maxRecDepth 100000 in
theorem bad_any (w : World) (x : Ev) : Calls Tryd.prog 115 #[evV x] w fun e w' => e = .returned (.bool (!okE x)) ∧ Below w.heap.size w w' := by
  obtain ⟨kind, g, fn, pc, n⟩ := x
  simp only [evV]
  have HK := Lib.hid (show (!okE ⟨kind, g, fn, pc, n⟩) = (!(decide (1 ≤ g) && decide (g ≤ 64))) from rfl)
  go_enter Tryd.func115, Tryd.ntmps115
  go_wp2_with fail
  all_goals go_ret
  all_goals refine ⟨congrArg (fun b => Ending.returned (Value.bool b)) ?_, (Below.refl _ _).alloc (Nat.le_refl _) _⟩
  all_goals (rw [HK.out, Bool.eq_iff_iff]; simp <;> omega)
set_option maxRecDepth 100000 in
set_option maxHeartbeats 1000000 in
theorem idxb_any (w : World) (v : Value) (l : List Ev) (h : EvsAt w v l) (hl : l.length ≤ 1000) :
    Calls Tryd.prog 149 #[v, .func (.func 115) #[] #[]] w fun e w' => (∃ r : Int, e = .returned (.int .i64 r) ∧ ((r = -1 ∧ ∀ k, k < l.length → okE (l.getD k default) = true) ∨ ∃ k : Nat, k < l.length ∧ r = k ∧ okE (l.getD k default) = false ∧ ∀ t, t < k → okE (l.getD t default) = true)) ∧ Below w.heap.size w w' := by
  obtain ⟨a, c, rfl, h2⟩ := h
  obtain ⟨n, hn⟩ : ∃ n, n = l.length := ⟨_, rfl⟩
  rw [← hn] at hl ⊢
  have HN := Lib.hid hn
  have H2 := Lib.hid h2
  clear hn h2
  go_enter Tryd.func149, Tryd.ntmps149
  go_wp2_with fail
  go_loopw [5, 8] (fun s5 s8 wr => ∃ k : Nat, k ≤ n ∧ s8 = .int .i64 k ∧ Hid (∀ t, t < k → okE (l.getD t default) = true) ∧ Hid (Below w.heap.size w wr)) (fun _ s8 _ => n - (intOf s8).toNat)
  case atStart => exact ⟨0, Nat.zero_le _, rfl, Lib.hid (fun t ht => by omega), Lib.hid (Below.refl _ _)⟩
  case round =>
    obtain ⟨k, hk, rfl, hall, hb⟩ := hrel
    by_cases hlt : k < n
    · have hkl : k < l.length := by have := HN.out; omega
      obtain ⟨b1, o1, rfl, q1⟩ := H2.out (by omega)
      have d1 := (q1 k hkl).below hb.out (Nat.le_refl _)
      clear q1
      obtain ⟨x, hx0⟩ : ∃ x, x = l.getD k default := ⟨_, rfl⟩
      rw [← hx0] at d1
      have HX := Lib.hid hx0
      clear hx0
      have hC := Lib.hid (bad_any wr x)
      obtain ⟨x1, x2, x3, x4, x5⟩ := x
      obtain ⟨p0, p1, p2, p3, p4⟩ := d1
      have k0 : (0 : Int) ≤ (k : Int) := by omega
      have k1 : (k : Int) < (n : Int) := by omega
      go_wp2_with fail
      refine hC.out.mono ?_
      rintro e w2 ⟨rfl, hb2⟩
      have hb3 := Lib.hid (hb.out.trans (hb2.mono hb.out.size))
      clear hb2
      rename_i K1 K2 hK2
      refine hK2 _ _ ?_
      clear hK2
      obtain ⟨r, hr⟩ : ∃ r, okE ⟨x1, x2, x3, x4, x5⟩ = r := ⟨_, rfl⟩
      rw [hr]
      have HR := Lib.hid hr
      clear hr
      cases r
      · simp only [Bool.not_false]
        go_wp2_with fail
        go_ret
        exact ⟨⟨k, rfl, .inr ⟨k, hlt, rfl, by rw [← HX.out]; exact HR.out, hall.out⟩⟩, hb3.out⟩
      · simp only [Bool.not_true]
        go_wp2_with fail
        go_roundw
        case rel =>
          refine ⟨k + 1, by omega, by go_num, Lib.hid (fun t ht => ?_), hb3⟩
          by_cases e : t = k
          · subst e; rw [← HX.out]; exact HR.out
          · exact hall.out t (by omega)
        case measure => simp [intOf]; omega
    · have e : k = n := by omega
      have HE := Lib.hid e
      clear e
      go_wp2_with fail
      go_ret
      exact ⟨⟨-1, rfl, .inl ⟨rfl, fun t ht => hall.out t (by have := HE.out; omega)⟩⟩, hb.out⟩
theorem contains_any (w : World) (v : Value) (l : List Ev) (h : EvsAt w v l) (hl : l.length ≤ 1000) :
    Calls Tryd.prog 116 #[v, .func (.func 115) #[] #[]] w fun e w' => (∃ b : Bool, e = .returned (.bool b) ∧ (b = false → ∀ k, k < l.length → okE (l.getD k default) = true)) ∧ Below w.heap.size w w' := by
  have HC := Lib.hid (idxb_any w v l h hl)
  obtain ⟨a, c, rfl, h2⟩ := h
  clear h2
  go_enter Tryd.func116, Tryd.ntmps116
  go_wp2_with fail
  refine HC.out.mono ?_
  rintro e w1 ⟨⟨r, rfl, hr⟩, hb⟩
  have HR := Lib.hid hr
  clear hr
  rename_i K1 K2 hK2
  refine hK2 _ _ ?_
  clear hK2
  go_wp2_with fail
  go_ret
  refine ⟨⟨_, rfl, fun hf => ?_⟩, hb⟩
  rcases HR.out with ⟨_, hall⟩ | ⟨k, _, rfl, _, _⟩
  · exact hall
  · simp at hf
end Go.Proofs.YtfcoigcenheefaaDoor
