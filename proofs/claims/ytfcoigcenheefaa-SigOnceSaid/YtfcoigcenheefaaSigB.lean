/-
  cmp.Or of two numbers, sig's compare, and the queue's Less, Len, Pop: what each call returns and what becomes of the box; conditions: the places asked for are there.
-/
import Derived.Test.YtfcoigcenheefaaSigA
set_option linter.unusedVariables false
set_option linter.unusedSimpArgs false
namespace Go.Proofs.Ytfcoigcenheefaa
open Go.RowKit
set_option maxHeartbeats 400000 in
theorem or_any (g : Nat) (x y : Int) (w : World) (h0 : w.cell? ⟨g, 0, none⟩ = some (.int .i64 x)) (h1 : w.cell? ⟨g, 1, none⟩ = some (.int .i64 y)) :
    Calls Try.prog 46 #[.slice (some ⟨g, 0, none⟩) 2 2] w fun e w' => (∃ c, e = .returned (.int .i64 c)) ∧ w' = w := by
  by_cases hx : (x != 0) = true
  · go_enter Try.func46, Try.ntmps46
    go_wp2
    refine wp_loop_rounds 1 ?_
    rw [rounds_succ]
    go_wp2
    go_ret
    exact ⟨⟨_, rfl⟩, rfl⟩
  · have hx' : (x != 0) = false := by simpa using hx
    by_cases hy : (y != 0) = true
    · go_enter Try.func46, Try.ntmps46
      go_wp2
      refine wp_loop_rounds 2 ?_
      rw [rounds_succ]
      go_wp2
      rw [rounds_succ]
      go_wp2
      go_ret
      exact ⟨⟨_, rfl⟩, rfl⟩
    · have hy' : (y != 0) = false := by simpa using hy
      go_enter Try.func46, Try.ntmps46
      go_wp2
      refine wp_loop_rounds 3 ?_
      rw [rounds_succ]
      go_wp2
      rw [rounds_succ]
      go_wp2
      rw [rounds_succ]
      go_wp2
      go_ret
      exact ⟨⟨_, rfl⟩, rfl⟩

set_option maxHeartbeats 400000 in
theorem comp_any (a1 a2 b1 b2 : Int) (w : World) :
    Calls Try.prog 45 #[.agg #[.int .i64 a1, .int .i64 a2], .agg #[.int .i64 b1, .int .i64 b2]] w fun e w' => (∃ c, e = .returned (.int .i64 c)) ∧ Frm (fun _ => False) w w' := by
  have k0 : ((w.alloc (.cells #[.int .i64 a1, .int .i64 a2] 58)).alloc (.cells #[.int .i64 b1, .int .i64 b2] 58)).cell? ⟨w.heap.size, 0, none⟩ = some (.int .i64 a1) := by
    rw [World.cell?_alloc_old _ _ _ (by simp)]; simp
  have k1 : ((w.alloc (.cells #[.int .i64 a1, .int .i64 a2] 58)).alloc (.cells #[.int .i64 b1, .int .i64 b2] 58)).cell? ⟨w.heap.size, 1, none⟩ = some (.int .i64 a2) := by
    rw [World.cell?_alloc_old _ _ _ (by simp)]; simp
  have k2 : ((w.alloc (.cells #[.int .i64 a1, .int .i64 a2] 58)).alloc (.cells #[.int .i64 b1, .int .i64 b2] 58)).cell? ⟨w.heap.size + 1, 0, none⟩ = some (.int .i64 b1) := by
    have h := World.cell?_alloc_new (w.alloc (.cells #[.int .i64 a1, .int .i64 a2] 58)) #[.int .i64 b1, .int .i64 b2] 58 0
    rw [World.size_alloc] at h; exact h
  have k3 : ((w.alloc (.cells #[.int .i64 a1, .int .i64 a2] 58)).alloc (.cells #[.int .i64 b1, .int .i64 b2] 58)).cell? ⟨w.heap.size + 1, 1, none⟩ = some (.int .i64 b2) := by
    have h := World.cell?_alloc_new (w.alloc (.cells #[.int .i64 a1, .int .i64 a2] 58)) #[.int .i64 b1, .int .i64 b2] 58 1
    rw [World.size_alloc] at h; exact h
  have hF : Frm (fun _ => False) w ((w.alloc (.cells #[.int .i64 a1, .int .i64 a2] 58)).alloc (.cells #[.int .i64 b1, .int .i64 b2] 58)) := ((Frm.refl _ _).alloc _).alloc _
  go_enter Try.func45, Try.ntmps45
  go_wp2
  generalize (w.alloc (.cells #[.int .i64 a1, .int .i64 a2] 58)).alloc (.cells #[.int .i64 b1, .int .i64 b2] 58) = w0 at *
  go_still_tail 10, (by kernel_rfl)
  still_call (compare2 _ _ _)
  repeat still_step
  still_call (compare3 _ _ _)
  refine wpStill_nil ?_
  change wpList _ _ _ _ _ (World.drew _)
  have hF1 := hF.drew.alloc (.cells #[.int .i64 (cmpI a2 b2), .int .i64 (cmpI a1 b1)] 3)
  have q0 : (w0.drew.alloc (.cells #[.int .i64 (cmpI a2 b2), .int .i64 (cmpI a1 b1)] 3)).cell? ⟨w0.drew.heap.size, 0, none⟩ = some (.int .i64 (cmpI a2 b2)) := World.cell?_alloc_new _ _ _ 0
  have q1 : (w0.drew.alloc (.cells #[.int .i64 (cmpI a2 b2), .int .i64 (cmpI a1 b1)] 3)).cell? ⟨w0.drew.heap.size, 1, none⟩ = some (.int .i64 (cmpI a1 b1)) := World.cell?_alloc_new _ _ _ 1
  go_wp2_with (go_at_call 46; refine (or_any _ _ _ _ q0 q1).mono ?_; rintro e w' ⟨⟨c, rfl⟩, hw⟩; cases hw)
  go_ret
  exact ⟨⟨c, rfl⟩, hF1⟩

/-- The cells of signal i. -/
theorem Box.cL {w : World} {b g n cap : Nat} {L : List (Int × Int)} {A : List Int} (h : Box w b (.slice (some ⟨g, 0, none⟩) n cap) L A) (i : Nat) (hi : i < L.length) :
    w.cell? ⟨g, i * 2, none⟩ = some (.int .i64 (L.getD i (0, 0)).1) ∧ w.cell? ⟨g, i * 2 + 1, none⟩ = some (.int .i64 (L.getD i (0, 0)).2) := by
  obtain ⟨h1, _, _⟩ := row_len h.own
  subst h1
  exact ⟨by rw [h.own.cellAt _ (by omega)]; exact flat_get0 L i hi, by rw [h.own.cellAt _ (by omega)]; exact flat_get1 L i hi⟩
set_option maxHeartbeats 400000 in
theorem less_any {w : World} {b g n cap : Nat} {L : List (Int × Int)} {A : List Int} (h : Box w b (.slice (some ⟨g, 0, none⟩) n cap) L A) (i j : Nat) (hi : i < L.length) (hj : j < L.length) :
    Calls Try.prog 41 #[.pointer (some ⟨b, 0, none⟩), .int .i64 i, .int .i64 j] w fun e w' => (∃ t, e = .returned (.bool t)) ∧ Frm (fun _ => False) w w' := by
  obtain ⟨h1, h2, h3⟩ := row_len h.own
  unfold maxLen at h3
  have c0 := h.c0
  obtain ⟨⟨i0, i1⟩, hI⟩ : ∃ s, s = L.getD i (0, 0) := ⟨_, rfl⟩
  obtain ⟨⟨j0, j1⟩, hJ⟩ : ∃ s, s = L.getD j (0, 0) := ⟨_, rfl⟩
  obtain ⟨a0, a1⟩ := h.cL i hi
  obtain ⟨b0, b1⟩ := h.cL j hj
  rw [← hI] at a0 a1
  rw [← hJ] at b0 b1
  dsimp only at a0 a1 b0 b1
  clear hI hJ
  subst h1
  have hi1 : (i : Int) < (L.length : Int) := by omega
  have hj1 : (j : Int) < (L.length : Int) := by omega
  go_enter Try.func41, Try.ntmps41
  go_wp2_with fail
  go_still_tail 14, (by kernel_rfl)
  change wpList _ _ _ _ _ (World.drew _)
  go_wp2_with (go_at_call 45; refine (comp_any _ _ _ _ _).mono ?_; rintro e w1 ⟨⟨c, rfl⟩, hF⟩)
  go_ret
  exact ⟨⟨_, rfl⟩, ⟨hF.os, hF.tape, hF.output, hF.size, hF.block⟩⟩
theorem len_any {w : World} {b : Nat} {sg : Option Addr} {n cap : Nat} {L : List (Int × Int)} {A : List Int} (h : Box w b (.slice sg n cap) L A) :
    Calls Try.prog 22 #[.pointer (some ⟨b, 0, none⟩)] w fun e w' => e = .returned (.int .i64 n) ∧ w' = w := by
  have c0 := h.c0
  go_enter Try.func22, Try.ntmps22
  go_wp2
  go_ret
  exact ⟨rfl, rfl⟩
theorem blen_any {w : World} {b : Nat} {sg : Option Addr} {n cap : Nat} {L : List (Int × Int)} {A : List Int} (h : Box w b (.slice sg n cap) L A) :
    Calls Try.prog 18 #[.pointer (some ⟨b, 0, none⟩)] w fun e w' => e = .returned (.int .i64 n) ∧ w' = w := by
  go_enter Try.func18, Try.ntmps18
  go_wp2_with (go_at_call 22; refine (len_any h).mono ?_; rintro e w' ⟨rfl, hw⟩; cases hw)
  go_ret
  exact ⟨rfl, rfl⟩
theorem flat_take (L : List (Int × Int)) (m : Nat) : flat (L.take m) = (flat L).take (m * 2) := by
  induction L generalizing m with
  | nil => simp [flat]
  | cons a l ih =>
    cases m with
    | zero => simp [flat]
    | succ m =>
      have := ih m
      rw [show (m + 1) * 2 = m * 2 + 1 + 1 by omega]
      simpa [flat] using this
theorem row_take2 {w : World} {base : Nat} {e : TypeId} {sg : Option Addr} {sl sc n m : Nat} {L : List (Int × Int)} (h : w.ownsRow base e 2 (.slice sg sl sc) n (flat L)) (hn : n = L.length) (hm : m ≤ n) : w.ownsRow base e 2 (.slice sg m sc) m (flat (L.take m)) := by
  obtain ⟨h1, h2⟩ := h
  refine ⟨by rw [flat_len, List.length_take]; omega, ?_⟩
  rcases h2 with ⟨h2, h3⟩ | ⟨g, cap, cur, h2, h3, h4, h5, h6, h7, h8⟩
  · simp at h2; left; simp [h2]; omega
  · simp only [Value.slice.injEq] at h2
    obtain ⟨rfl, _, rfl⟩ := h2
    right
    refine ⟨g, sc, cur, rfl, h3, h4, by omega, h6, h7, ?_⟩
    rw [flat_take, ← h8, List.take_take]; congr 1; omega
theorem blk_set0 {w : World} {b : Nat} {sv : Value} {A : List Int} (h : w.heap[b]? = some (.cells (sv :: A.map (Value.int .i64)).toArray 54 (0, 0))) (sv' : Value) :
    (w.setCell ⟨b, 0, none⟩ sv').heap[b]? = some (.cells (sv' :: A.map (Value.int .i64)).toArray 54 (0, 0)) := by
  rw [heap_setCell_same _ b 0 _ _ _ h]; simp
theorem blk_setA {w : World} {b : Nat} {sv : Value} {A : List Int} (h : w.heap[b]? = some (.cells (sv :: A.map (Value.int .i64)).toArray 54 (0, 0))) (m : Nat) (v : Int) :
    (w.setCell ⟨b, 1 + m, none⟩ (.int .i64 v)).heap[b]? = some (.cells (sv :: (A.set m v).map (Value.int .i64)).toArray 54 (0, 0)) := by
  rw [heap_setCell_same _ b (1 + m) _ _ _ h]; simp [Nat.add_comm 1 m, List.map_set]
theorem blk_c0 {w : World} {b : Nat} {sv : Value} {A : List Int} (h : w.heap[b]? = some (.cells (sv :: A.map (Value.int .i64)).toArray 54 (0, 0))) : w.cell? ⟨b, 0, none⟩ = some sv := by
  rw [cell_of_row _ _ 0 _ _ _ h]; rfl
theorem blk_cA {w : World} {b : Nat} {sv : Value} {A : List Int} (h : w.heap[b]? = some (.cells (sv :: A.map (Value.int .i64)).toArray 54 (0, 0))) (m : Nat) (hm : m < A.length) : w.cell? ⟨b, 1 + m, none⟩ = some (.int .i64 (A.getD m 0)) := by
  rw [cell_of_row _ _ (1 + m) _ _ _ h]
  simp [Nat.add_comm 1 m, List.getD, hm]
set_option maxHeartbeats 400000 in
/-- Pop. -/
theorem pop_any {w : World} {b g n cap : Nat} {L : List (Int × Int)} {A : List Int} (h : Box w b (.slice (some ⟨g, 0, none⟩) n cap) L A) (h0 : 0 < L.length)
   (m : Nat) (hm : (L.getD (L.length - 1) (0, 0)).1 = m) (hm2 : m < 64) :
    Calls Try.prog 42 #[.pointer (some ⟨b, 0, none⟩)] w fun e w' => (∃ v, e = .returned v) ∧ Box w' b (.slice (some ⟨g, 0, none⟩) (n - 1) cap) (L.take (L.length - 1)) (A.set m (-1)) ∧ Frm (· = b) w w' := by
  obtain ⟨h1, h2, h3⟩ := row_len h.own
  unfold maxLen at h3
  have c0 := h.c0
  obtain ⟨⟨i0, i1⟩, hI⟩ : ∃ s, s = L.getD (L.length - 1) (0, 0) := ⟨_, rfl⟩
  obtain ⟨a0, a1⟩ := h.cL (L.length - 1) (by omega)
  rw [← hI] at a0 a1 hm
  dsimp only at a0 a1 hm
  subst hm h1
  clear hI
  have f0 := h.fz 0
  have f1 := h.fz (1 + m)
  have cA := h.cA m hm2
  have hm3 : (m : Int) < 64 := by omega
  obtain ⟨l, hl⟩ : ∃ l, L.length = l + 1 := ⟨L.length - 1, by omega⟩
  rw [hl, Nat.add_sub_cancel] at a0 a1
  have hb := lt_of_block h.blk
  have hg := block_lt_of_cell a0
  dsimp only at hg
  go_enter Try.func42, Try.ntmps42
  go_wp2_with fail
  have hF1 : Frm (· = b) w ((w.setCell ⟨b, 0, none⟩ (.slice (some ⟨g, 0, none⟩) l cap)).alloc (.cells #[.int .i64 m, .int .i64 i1] 58)) := ((Frm.refl (fun x => x = b) w).setCell (p := ⟨b, 0, none⟩) (.inr rfl) _).alloc _
  have hblk : ((w.setCell ⟨b, 0, none⟩ (.slice (some ⟨g, 0, none⟩) l cap)).alloc (.cells #[.int .i64 m, .int .i64 i1] 58)).heap[b]? = some (.cells (.slice (some ⟨g, 0, none⟩) l cap :: A.map (Value.int .i64)).toArray 54 (0, 0)) := by
    rw [heap_alloc_old _ _ (by simpa using hb)]; exact blk_set0 h.blk _
  have hgb : g ≠ b := by
    intro e; subst e
    obtain ⟨cur, q, _⟩ := row_block h.own (g := g) rfl
    rw [h.blk] at q; simp at q
  have hrow : ((w.setCell ⟨b, 0, none⟩ (.slice (some ⟨g, 0, none⟩) l cap)).alloc (.cells #[.int .i64 m, .int .i64 i1] 58)).ownsRow 0 58 2 (.slice (some ⟨g, 0, none⟩) l cap) l (flat (L.take l)) :=
    (ownsRow_setCell_other (row_take2 h.own rfl (by omega)) (by simp [Value.ownBlock]; exact hgb) _).alloc _
  have hx0 : ((w.setCell ⟨b, 0, none⟩ (.slice (some ⟨g, 0, none⟩) l cap)).alloc (.cells #[.int .i64 m, .int .i64 i1] 58)).cell? ⟨w.heap.size, 0, none⟩ = some (.int .i64 m) := by
    have q := World.cell?_alloc_new (w.setCell ⟨b, 0, none⟩ (.slice (some ⟨g, 0, none⟩) l cap)) #[.int .i64 m, .int .i64 i1] 58 0
    rw [World.size_setCell] at q; exact q
  have hx1 : ((w.setCell ⟨b, 0, none⟩ (.slice (some ⟨g, 0, none⟩) l cap)).alloc (.cells #[.int .i64 m, .int .i64 i1] 58)).cell? ⟨w.heap.size, 1, none⟩ = some (.int .i64 i1) := by
    have q := World.cell?_alloc_new (w.setCell ⟨b, 0, none⟩ (.slice (some ⟨g, 0, none⟩) l cap)) #[.int .i64 m, .int .i64 i1] 58 1
    rw [World.size_setCell] at q; exact q
  generalize (w.setCell ⟨b, 0, none⟩ (.slice (some ⟨g, 0, none⟩) l cap)).alloc (.cells #[.int .i64 m, .int .i64 i1] 58) = w1 at *
  have cA' := blk_cA hblk m (by rw [h.alen]; exact hm2)
  have f1' : w1.frozen? ⟨b, 1 + m, none⟩ = false := frozen_of_row _ _ _ _ _ hblk
  clear a0 a1 cA f0 f1 c0
  go_still_tail 6, (by kernel_rfl)
  change wpList _ _ _ _ _ (World.drew _)
  go_wp2_with fail
  go_ret
  refine ⟨⟨_, rfl⟩, ⟨?_, by simpa using h.alen, ?_⟩, (hF1.setCell (p := ⟨b, 1 + m, none⟩) (.inr rfl) (.int .i64 (-1))).drew⟩
  · have q := blk_setA hblk m (-1)
    rw [show L.length - 1 = l by omega]; exact q
  · have q := ownsRow_setCell_other hrow (a := ⟨b, 1 + m, none⟩) (by simp [Value.ownBlock]; exact hgb) (.int .i64 (-1))
    rw [show L.length - 1 = l by omega, List.length_take, Nat.min_eq_left (by omega)]; exact q.drew
end Go.Proofs.Ytfcoigcenheefaa
