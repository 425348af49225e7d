import Derived.Test.YtfcoigcenheefaaDoorEvText
import Derived.Test.YtfcoigcenheefaaDoorPut
set_option linter.unusedVariables false
set_option linter.unusedSimpArgs false
namespace Go.Proofs.YtfcoigcenheefaaDoor
open Go.RowKit
theorem put_three (wc : World) (H g fn pc : Nat) (c0 : List UInt8) (h1 : g < 100) (h2 : fn < 100) (h3 : pc < 100) (hsz : wc.heap.size = H + 2) (r0 : wc.heap[H]? = some (.cells #[.string ⟨c0.toArray⟩] 9 (0, 0))) (r1 : wc.heap[H + 1]? = some (.cells #[.slice (some ⟨H, 0, none⟩) 1 1] 79 (0, 0))) :
    Calls Tryd.prog 67 #[.slice (some ⟨H + 2, 0, none⟩) 3 3, .pointer (some ⟨H + 1, 0, none⟩)] (wc.alloc (.cells #[.int .i64 g, .int .i64 fn, .int .i64 pc] 3)) fun e w' => e = .returned (.tuple #[]) ∧
      ∃ v, w'.heap[H + 1]? = some (.cells #[v] 79 (0, 0)) ∧ w'.ownsRow H 9 1 v 4 ([c0, Lib.decDigits g, Lib.decDigits fn, Lib.decDigits pc].map strV) ∧ v.ownBlock ≠ some (H + 1) ∧ Frm (fun j => H ≤ j) wc w' := by
  have hn := heap_alloc_new wc (.cells #[.int .i64 g, .int .i64 fn, .int .i64 pc] 3)
  rw [hsz] at hn
  refine (put_any (wc.alloc (.cells #[.int .i64 g, .int .i64 fn, .int .i64 pc] 3)) H (H + 1) (H + 2) (.slice (some ⟨H, 0, none⟩) 1 1) [c0] [g, fn, pc] ?_ (by simp) ?_ ?_ ?_ ?_ ?_ (by omega) ?_).mono ?_
  · intro k hk
    simp at hk
    rcases k with _ | _ | _ | k <;> first | (simp; omega) | omega
  · rw [heap_alloc_old _ _ (by omega)]; exact r1
  · refine ⟨rfl, .inr ⟨H, 1, _, rfl, Nat.le_refl _, (by rw [heap_alloc_old _ _ (by omega)]; exact r0), Nat.le_refl _, by decide, rfl, rfl⟩⟩
  · simp [Value.ownBlock]
  · simp; omega
  · intro k hk
    simp at hk
    rw [Lib.cell_of_heap hn]
    rcases k with _ | _ | _ | k <;> first | rfl | omega
  · simp [Value.ownBlock]
  · rintro e w' ⟨rfl, v, q1, q2, q3, q4⟩
    refine ⟨rfl, v, q1, by simpa [putL] using q2, q3, ?_⟩
    refine ((Frm.refl (fun j => H ≤ j) wc).alloc _).trans q4 (fun i hi hT => ?_)
    rcases hT with rfl | h
    · omega
    · simp [Value.ownBlock] at h; omega
theorem join_row (w : World) (base : Nat) (v : Value) (xs : List (List UInt8)) (n : Nat) (hn : n = xs.length) (h : w.ownsRow base 9 1 v n (xs.map strV)) (h0 : 0 < xs.length) (h1 : xs.length ≤ 1000) (h2 : (Lib.join xs [32]).length ≤ 1000000) :
    Calls Tryd.prog 70 #[v, .string ⟨#[32]⟩] w fun e w' => e = .returned (.string ⟨(Lib.join xs [32]).toArray⟩) ∧ Below w.heap.size w w' := by
  subst hn
  obtain ⟨g, c, hv, _, hg⟩ := h.form (by simpa using h0)
  have hle := (row_len (hv ▸ h)).2.1
  subst hv
  have hm : ((xs.map fun x => (⟨x.toArray⟩ : ByteArray)).map (·.data.toList)) = xs := by simp [List.map_map, Function.comp_def]
  have hJ := Tryd.strings_Join g 0 c (xs.map fun x => (⟨x.toArray⟩ : ByteArray)) ⟨#[32]⟩ w ?_ ?_ (by simp; omega) (by simpa using hle) (by rw [hm]; simp; omega)
  · rw [hm] at hJ
    simpa using hJ
  · intro j x hj
    have hjl : j < xs.length := by have := (List.getElem?_eq_some_iff.1 hj).1; simpa using this
    rw [Nat.zero_add, h.cellAt j (by omega)]
    simp [strV] at hj ⊢
    obtain ⟨a, ha, rfl⟩ := hj
    exact ⟨a, ha, rfl⟩
  · exact lt_of_own h rfl
end Go.Proofs.YtfcoigcenheefaaDoor
