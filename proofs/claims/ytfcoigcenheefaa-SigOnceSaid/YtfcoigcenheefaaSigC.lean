/-
  The queue's Push: the signal stands at the end, its place is noted; condition: at most 1000 signals, a machine from 0 to 63.
-/
import Derived.Test.YtfcoigcenheefaaSigB
import Derived.Deep.RegionLaw
set_option linter.unusedVariables false
set_option linter.unusedSimpArgs false
namespace Go.Proofs.Ytfcoigcenheefaa
open Go.RowKit
theorem Try.info58 : (Try.prog.info? 58).map (fun i => (i.zero, i.size, i.bytes)) = some (some (.agg #[.int .i64 0, .int .i64 0]), 2, 16) := by kernel_rfl
theorem ta58 (v : Value) (w : World) : Sem.run Try.prog (Instr.typeAssert (.iface 58 v) 20 58 true) w = .ok (.tuple #[v, .bool true]) w := by kernel_rfl
set_option maxHeartbeats 400000 in
theorem push_any {w : World} {b : Nat} {sg : Option Addr} {n cap : Nat} {L : List (Int × Int)} {A : List Int} (h : Box w b (.slice sg n cap) L A) (hl : L.length ≤ 1000) (m : Nat) (due : Int) (hm2 : m < 64) :
    Calls Try.prog 43 #[.pointer (some ⟨b, 0, none⟩), .iface 58 (.agg #[.int .i64 m, .int .i64 due])] w fun e w' => e = .returned (.tuple #[]) ∧
      (∃ g' cap', Box w' b (.slice (some ⟨g', 0, none⟩) (L.length + 1) cap') (L ++ [((m : Int), due)]) (A.set m L.length) ∧ (Value.ownBlock (.slice sg n cap) = some g' ∨ w.heap.size ≤ g')) ∧ Frm (fun q => q = b ∨ Value.ownBlock (.slice sg n cap) = some q) w w' := by
  obtain ⟨h1, h2, h3⟩ := row_len h.own
  unfold maxLen at h3
  have c0 := h.c0
  subst h1
  have f0 := h.fz 0
  have f1 := h.fz (1 + m)
  have cA := h.cA m hm2
  have hm3 : (m : Int) < 64 := by omega
  have hb := lt_of_block h.blk
  have ta := ta58 (.agg #[.int .i64 m, .int .i64 due])
  go_enter Try.func43, Try.ntmps43
  go_wp2_with fail
  have hF1 : Frm (fun q => q = b ∨ Value.ownBlock (.slice sg L.length cap) = some q) w (w.alloc (.cells #[.int .i64 m, .int .i64 due] 58)) := (Frm.refl _ _).alloc _
  have hblk : (w.alloc (.cells #[.int .i64 m, .int .i64 due] 58)).heap[b]? = some (.cells (.slice sg L.length cap :: A.map (Value.int .i64)).toArray 54 (0, 0)) := by
    rw [heap_alloc_old _ _ hb]; exact h.blk
  have hrow := h.own.alloc (.cells #[.int .i64 m, .int .i64 due] 58)
  have hx0 : (w.alloc (.cells #[.int .i64 m, .int .i64 due] 58)).cell? ⟨w.heap.size, 0, none⟩ = some (.int .i64 m) := World.cell?_alloc_new _ _ _ 0
  have hx1 : (w.alloc (.cells #[.int .i64 m, .int .i64 due] 58)).cell? ⟨w.heap.size, 1, none⟩ = some (.int .i64 due) := World.cell?_alloc_new _ _ _ 1
  have hsz : w.heap.size < (w.alloc (.cells #[.int .i64 m, .int .i64 due] 58)).heap.size := by simp
  have hne : Value.ownBlock (.slice sg L.length cap) ≠ some b := by
    intro e
    obtain ⟨cur, q, _⟩ := row_block h.own e
    rw [h.blk] at q; simp at q
  generalize w.alloc (.cells #[.int .i64 m, .int .i64 due] 58) = w1 at *
  have c0' := blk_c0 hblk
  have cA' := blk_cA hblk m (by rw [h.alen]; exact hm2)
  have f1' : w1.frozen? ⟨b, 1 + m, none⟩ = false := frozen_of_row _ _ _ _ _ hblk
  clear cA f0 f1 c0
  go_still_tail 11, (by kernel_rfl)
  change wpList _ _ _ _ _ (World.drew _)
  go_upto_region 3 with fail
  have hF2 := (hF1.setCell (p := ⟨b, 1 + m, none⟩) (.inr (.inl rfl)) (.int .i64 L.length)).drew
  have hblk2 := blk_setA hblk m L.length
  have hrow2 := (ownsRow_setCell_other hrow (a := ⟨b, 1 + m, none⟩) hne (.int .i64 L.length)).drew
  have hy0 : (w1.setCell ⟨b, 1 + m, none⟩ (.int .i64 L.length)).drew.cell? ⟨w.heap.size, 0, none⟩ = some (.int .i64 m) := by
    rw [World.cell?_drew, World.cell?_setCell_other _ _ _ _ (by simp)]; exact hx0
  have hy1 : (w1.setCell ⟨b, 1 + m, none⟩ (.int .i64 L.length)).drew.cell? ⟨w.heap.size, 1, none⟩ = some (.int .i64 due) := by
    rw [World.cell?_drew, World.cell?_setCell_other _ _ _ _ (by simp)]; exact hx1
  have hsz2 : w.heap.size < (w1.setCell ⟨b, 1 + m, none⟩ (.int .i64 L.length)).drew.heap.size := by simpa using hsz
  replace hblk2 : (w1.setCell ⟨b, 1 + m, none⟩ (.int .i64 L.length)).drew.heap[b]? = _ := hblk2
  generalize (w1.setCell ⟨b, 1 + m, none⟩ (.int .i64 L.length)).drew = w2 at *
  have c0' := blk_c0 hblk2
  have f0' : w2.frozen? ⟨b, 0, none⟩ = false := frozen_of_row _ _ _ _ _ hblk2
  go_wp2_with fail
  obtain ⟨i0, hi0, hz0, hz1, hz2⟩ := info_parts Try.info58
  have hm1 : L.length + 1 ≤ maxLen := by unfold maxLen; omega
  have hm2 : (L.length + 1) * 16 ≤ 140737488355328 := by omega
  have hb2 := lt_of_block hblk2
  have HB3 : Hid (∀ w3, (w2.alloc (.cells #[.int .i64 m, .int .i64 due] 58)).drew.grownBy w3 (Value.ownBlock (.slice sg L.length cap)) → w3.heap[b]? = some (.cells (.slice sg L.length cap :: (A.set m L.length).map (Value.int .i64)).toArray 54 (0, 0))) := fun w3 hgr => by
    rw [hgr.block b (by simp; omega) (Ne.symm hne)]
    show (w2.alloc _).heap[b]? = _
    rw [heap_alloc_old _ _ hb2]; exact hblk2
  go_region_law ((refine step_append_lies _ rfl _ _ 49 rfl 0 58 i0 (.agg #[.int .i64 0, .int .i64 0]) 2 16 Try.underlying49 hi0 hz0 hz1 hz2 rfl (by decide) _ _ _ rfl ((hrow2.alloc _).drew) ⟨w2.heap.size, 0, none⟩ 1 1 [.int .i64 m, .int .i64 due] rfl rfl (World.news_of_block (cs := #[.int .i64 m, .int .i64 due]) (t := 58) (fr := (0, 0)) (heap_alloc_new w2 _)) (by simp [Value.oneCell']) (by decide) hm1 hm2 (by omega) (w2.heap.size + 1) (by simp) ?_; intro g cap' w3 hown3 hgr hat hlt; have c0'' := blk_c0 (HB3.out w3 hgr); have f0'' : w3.frozen? ⟨b, 0, none⟩ = false := frozen_of_row _ _ _ _ _ (HB3.out w3 hgr)))
  all_goals
    have hblk3 := HB3.out w3 hgr
    have hF3 := (((hF2.alloc (.cells #[.int .i64 m, .int .i64 due] 58)).drew.grown hgr (fun q hq => .inr (.inr hq))).setCell (p := ⟨b, 0, none⟩) (.inr (.inl rfl)) (.slice (some ⟨g, 0, none⟩) (L.length + 1) cap'))
    have hgb : g ≠ b := by
      intro e; subst e
      obtain ⟨cur, q, _⟩ := row_block hown3 (g := g) rfl
      rw [hblk3] at q; simp at q
    go_wp2
    go_end0
    refine ⟨rfl, ⟨g, cap', ⟨blk_set0 hblk3 _, by simpa using h.alen, ?_⟩, hat.imp id (fun e => by have := hF2.size; omega)⟩, hF3⟩
    have q := ownsRow_setCell_other hown3 (a := ⟨b, 0, none⟩) (by simp [Value.ownBlock]; exact hgb) (.slice (some ⟨g, 0, none⟩) (L.length + 1) cap')
    have e : flat (L ++ [((m : Int), due)]) = flat L ++ [.int .i64 m, .int .i64 due] := by simp [flat]
    rw [e, List.length_append]
    exact q
end Go.Proofs.Ytfcoigcenheefaa
