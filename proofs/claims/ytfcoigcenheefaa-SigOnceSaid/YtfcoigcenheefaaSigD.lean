/-
  The queue's Swap: both signals and both places are exchanged; condition: two different places that are there.
-/
import Derived.Test.YtfcoigcenheefaaSigB
import Derived.BigRegion
set_option linter.unusedVariables false
set_option linter.unusedSimpArgs false
namespace Go.Proofs.Ytfcoigcenheefaa
open Go.RowKit
theorem Box.ne {w : World} {b g n cap : Nat} {L : List (Int × Int)} {A : List Int} (h : Box w b (.slice (some ⟨g, 0, none⟩) n cap) L A) : g ≠ b := by
  intro e; subst e
  obtain ⟨cur, q, _⟩ := row_block h.own (g := g) rfl
  rw [h.blk] at q; simp at q
theorem Box.drew {w : World} {b : Nat} {sv : Value} {L : List (Int × Int)} {A : List Int} (h : Box w b sv L A) : Box w.drew b sv L A := ⟨h.blk, h.alen, h.own.drew⟩
theorem Box.setL {w : World} {b g n cap : Nat} {L : List (Int × Int)} {A : List Int} (h : Box w b (.slice (some ⟨g, 0, none⟩) n cap) L A) (i : Nat) (s : Int × Int) (hi : i < L.length) :
    Box ((w.setCell ⟨g, i * 2, none⟩ (.int .i64 s.1)).setCell ⟨g, i * 2 + 1, none⟩ (.int .i64 s.2)) b (.slice (some ⟨g, 0, none⟩) n cap) (L.set i s) A := by
  obtain ⟨hl1, hl2, hl3⟩ := row_len h.own
  subst hl1
  refine ⟨?_, h.alen, ?_⟩
  · rw [heap_setCell_other _ _ _ _ (by simpa using Ne.symm h.ne), heap_setCell_other _ _ _ _ (by simpa using Ne.symm h.ne)]; exact h.blk
  · have q1 := (h.own.stored (i * 2) (.int .i64 s.1)).1
    have q2 := (q1.stored (i * 2 + 1) (.int .i64 s.2)).1
    rw [flat_set L i s hi] at q2
    rw [List.length_set]; exact q2
theorem Box.setA {w : World} {b : Nat} {sv : Value} {L : List (Int × Int)} {A : List Int} (h : Box w b sv L A) (hne : sv.ownBlock ≠ some b) (m : Nat) (v : Int) :
    Box (w.setCell ⟨b, 1 + m, none⟩ (.int .i64 v)) b sv L (A.set m v) :=
  ⟨blk_setA h.blk m v, by simpa using h.alen, ownsRow_setCell_other h.own hne _⟩
set_option maxHeartbeats 1000000 in
theorem swap_any {w : World} {b g n cap : Nat} {L : List (Int × Int)} {A : List Int} (h : Box w b (.slice (some ⟨g, 0, none⟩) n cap) L A) (i j mi mj : Nat) (hi : i < L.length) (hj : j < L.length) (hij : i ≠ j)
   (h1 : (L.getD i (0, 0)).1 = mi) (h2 : (L.getD j (0, 0)).1 = mj) (hmi : mi < 64) (hmj : mj < 64) :
    Calls Try.prog 44 #[.pointer (some ⟨b, 0, none⟩), .int .i64 i, .int .i64 j] w fun e w' => e = .returned (.tuple #[]) ∧
      Box w' b (.slice (some ⟨g, 0, none⟩) n cap) ((L.set i (L.getD j (0, 0))).set j (L.getD i (0, 0))) ((A.set mj i).set mi j) ∧ Frm (fun q => q = b ∨ q = g) w w' := by
  obtain ⟨hl1, hl2, hl3⟩ := row_len h.own
  unfold maxLen at hl3
  have c0 := h.c0
  subst hl1
  obtain ⟨a0, a1⟩ := h.cL i hi
  obtain ⟨b0, b1⟩ := h.cL j hj
  obtain ⟨⟨i0, i1⟩, hI⟩ : ∃ s, s = L.getD i (0, 0) := ⟨_, rfl⟩
  obtain ⟨⟨j0, j1⟩, hJ⟩ : ∃ s, s = L.getD j (0, 0) := ⟨_, rfl⟩
  rw [← hI] at a0 a1 h1 ⊢
  rw [← hJ] at b0 b1 h2 ⊢
  dsimp only at a0 a1 b0 b1 h1 h2
  subst h1 h2
  have HI := Lib.hid hI
  have HJ := Lib.hid hJ
  clear hI hJ
  have hgb : g ≠ b := by
    intro e; subst e
    obtain ⟨cur, q, _⟩ := row_block h.own (g := g) rfl
    rw [h.blk] at q; simp at q
  have fi0 := h.own.frozenAt (i * 2)
  have fi1 := h.own.frozenAt (i * 2 + 1)
  have fj0 := h.own.frozenAt (j * 2)
  have fj1 := h.own.frozenAt (j * 2 + 1)
  have hi1 : (i : Int) < (L.length : Int) := by omega
  have hj1 : (j : Int) < (L.length : Int) := by omega
  have hi0 : (0 : Int) ≤ (i : Int) := by omega
  have hj0 : (0 : Int) ≤ (j : Int) := by omega
  go_enter Try.func44, Try.ntmps44
  go_wp2
  go_region
  have hB := ((h.setL i (mj, j1) hi).setL j (mi, i1) (by simpa using hj)).drew
  dsimp only at hB
  have hF : Frm (fun q => q = b ∨ q = g) w ((((w.setCell ⟨g, i * 2, none⟩ (.int .i64 mj)).setCell ⟨g, i * 2 + 1, none⟩ (.int .i64 j1)).setCell ⟨g, j * 2, none⟩ (.int .i64 mi)).setCell ⟨g, j * 2 + 1, none⟩ (.int .i64 i1)).drew :=
    (((((Frm.refl (fun q => q = b ∨ q = g) w).setCell (p := ⟨g, i * 2, none⟩) (.inr (.inr rfl)) _).setCell (p := ⟨g, i * 2 + 1, none⟩) (.inr (.inr rfl)) _).setCell (p := ⟨g, j * 2, none⟩) (.inr (.inr rfl)) _).setCell (p := ⟨g, j * 2 + 1, none⟩) (.inr (.inr rfl)) _).drew
  generalize ((((w.setCell ⟨g, i * 2, none⟩ (.int .i64 mj)).setCell ⟨g, i * 2 + 1, none⟩ (.int .i64 j1)).setCell ⟨g, j * 2, none⟩ (.int .i64 mi)).setCell ⟨g, j * 2 + 1, none⟩ (.int .i64 i1)).drew = w1 at *
  clear a0 a1 b0 b1 fi0 fi1 fj0 fj1 c0
  have c0 := hB.c0
  have hlen : ((L.set i (mj, j1)).set j (mi, i1)).length = L.length := by simp
  obtain ⟨a0, _⟩ := hB.cL i (by omega)
  obtain ⟨b0, _⟩ := hB.cL j (by omega)
  rw [show (((L.set i ((mj : Int), j1)).set j ((mi : Int), i1)).getD i (0, 0)).1 = mj by simp [List.getD, List.getElem?_set, hi, Ne.symm hij]] at a0
  rw [show (((L.set i ((mj : Int), j1)).set j ((mi : Int), i1)).getD j (0, 0)).1 = mi by simp [List.getD, List.getElem?_set, hj, hij]] at b0
  have x0 := hB.cA mi hmi
  have x1 := hB.cA mj hmj
  have y0 := hB.fz (1 + mi)
  have y1 := hB.fz (1 + mj)
  have z0 : (0 : Int) ≤ (mi : Int) := by omega
  have z1 : (mi : Int) < 64 := by omega
  have z2 : (0 : Int) ≤ (mj : Int) := by omega
  have z3 : (mj : Int) < 64 := by omega
  obtain ⟨v', hy'⟩ := cell?_setCell_some (w := w1) (p := ⟨b, 1 + mj, none⟩) (x := .int .i64 i) (q := ⟨b, 1 + mi, none⟩) (v := .int .i64 (A.getD mi 0)) x0
  have HL := Lib.hid hlen
  clear hlen h
  go_wp2
  go_region
  go_wp2
  go_end0
  have hne1 : Value.ownBlock (.slice (some ⟨g, 0, none⟩) L.length cap) ≠ some b := by simp [Value.ownBlock]; exact hgb
  exact ⟨rfl, ((hB.setA hne1 mj i).setA hne1 mi j).drew, ((hF.setCell (p := ⟨b, 1 + mj, none⟩) (.inr (.inl rfl)) _).setCell (p := ⟨b, 1 + mi, none⟩) (.inr (.inl rfl)) _).drew⟩
end Go.Proofs.Ytfcoigcenheefaa
