import Derived.Test.YtfcoigcenheefaaDoorPkIdx
set_option linter.unusedVariables false
set_option linter.unusedSimpArgs false
namespace Go.Proofs.YtfcoigcenheefaaDoor
open Go.RowKit
theorem addr_addP (b o j : Nat) : (⟨b, o, none⟩ : Addr).add j = ⟨b, o + j, none⟩ := by unfold Addr.add; split <;> simp_all
theorem EvAt.cellN {w : World} {b o : Nat} {e : Ev} (h : EvAt w b o e) : ∀ r, r < 5 → w.cell? ⟨b, o + r, none⟩ = (evC e)[r]?
  | 0, _ => h.c0
  | 1, _ => h.c1
  | 2, _ => h.c2
  | 3, _ => h.c3
  | 4, _ => h.c4
  | r + 5, hr => by omega
set_option maxRecDepth 100000 in
set_option maxHeartbeats 1000000 in
theorem clone_any (w : World) (v : Value) (l : List Ev) (h : EvsAt w v l) (hl : l.length ≤ 1000) :
    Calls Tryd.prog 81 #[v] w fun e w' => ∃ v', e = .returned v' ∧ w'.ownsRow w.heap.size 38 5 v' l.length (flatE l) ∧ Below w.heap.size w w' := by
  obtain ⟨a, c, rfl, h2⟩ := h
  have q22 : ∀ (w : World) (a : Option Addr) (n c n' c' : Nat), (binOp .eql 22 (.slice a n c) (.slice none n' c')).run Tryd.prog w = .ok (.bool a.isNone) w := fun w a n c n' c' => Lib.run_eql_slice_nil w _ _ a n c n' c' Tryd.underlying22
  obtain ⟨i0, hi, hz0, hz1, hz2⟩ := info_parts info38
  cases a with
  | none =>
    have hl0 : l = [] := by
      rcases Nat.eq_zero_or_pos l.length with h0 | h0
      · exact List.eq_nil_of_length_eq_zero h0
      · obtain ⟨b, o, q, _⟩ := h2 h0; cases q
    subst hl0
    clear h2
    go_enter Tryd.func81, Tryd.ntmps81
    go_wp2_with fail
    go_ret
    exact ⟨_, rfl, ⟨rfl, .inl ⟨rfl, rfl⟩⟩, Below.refl _ _⟩
  | some ad =>
    have H2 := Lib.hid h2
    clear h2
    go_enter Tryd.func81, Tryd.ntmps81
    go_wp2_with (at_builtin; refine wpList_append_own _ rfl _ _ 22 rfl w.heap.size 38 i0 (.agg #[.int .i64 0, .int .i64 0, .int .i64 0, .int .i64 0, .int .i64 0]) 5 40 Tryd.underlying22 hi hz0 hz1 hz2 rfl (by decide) _ _ _ rfl (World.ownsRow_made w #[] 0 (Nat.le_refl _) (Nat.zero_le _) rfl) ad l.length c (flatE l) rfl ?qc1 ?qc2 ?qc3 ?qc4 ?qc5 ?qc6 ?_)
    case qc1 => rw [flatE_len]
    case qc2 =>
      intro j u hj
      have hjl : j < l.length * 5 := by rw [← flatE_len]; exact (List.getElem?_eq_some_iff.1 hj).1
      obtain ⟨b, o, hab, hev⟩ := H2.out (by omega)
      cases hab
      have hd : j = j / 5 * 5 + j % 5 := by omega
      rw [hd, flatE_get l (j / 5) (j % 5) (by omega) (by omega)] at hj
      have he := hev (j / 5) (by omega)
      refine Lib.cell?_alloc_some _ ?_
      rw [addr_addP, ← hj, show o + j = o + j / 5 * 5 + j % 5 by omega]
      have h5 : j % 5 < 5 := by omega
      have := he.cellN (j % 5) h5
      exact this
    case qc3 =>
      intro u hu
      obtain ⟨j, hj⟩ := List.getElem?_of_mem hu
      have hjl : j < l.length * 5 := by rw [← flatE_len]; exact (List.getElem?_eq_some_iff.1 hj).1
      have hd : j = j / 5 * 5 + j % 5 := by omega
      rw [hd, flatE_get l (j / 5) (j % 5) (by omega) (by omega)] at hj
      have h5 : j % 5 < 5 := by omega
      generalize j % 5 = r at hj h5 ⊢
      rcases r with _ | _ | _ | _ | _ | r <;> first | (simp [evC] at hj; subst hj; rfl) | omega
    case qc4 => unfold maxLen; omega
    case qc5 => omega
    case qc6 => simp
    intro v' w1 hown hgrow hnil
    go_wp2_with fail
    go_ret
    exact ⟨v', rfl, by simpa using hown, ((Below.refl _ w).alloc (Nat.le_refl _) _).grown hgrow (by simp) (by intro k hk; simp [Value.ownBlock] at hk; omega)⟩
/-- clear at a row of events. -/
theorem run_clear_ev (w : World) (ty : TypeId) (b o n c : Nat) (hn : 0 < n) (hc : ∀ j, j < n * 5 → (w.cell? ⟨b, o + j, none⟩).isSome = true) (hf : ∀ j, j < n * 5 → w.frozen? ⟨b, o + j, none⟩ = false) :
    (Builtin.clear_ #[22] ty #[.slice (some ⟨b, o, none⟩) n c]).run Tryd.prog w = .ok (.tuple #[]) (w.setCells b o (List.replicate (n * 5) (.int .i64 0))) := by
  have hzc : (Builtin.zeroCells #[.int .i64 0, .int .i64 0, .int .i64 0, .int .i64 0, .int .i64 0] n).toList = List.replicate (n * 5) (Value.int .i64 0) := by
    simp [Builtin.zeroCells]
    apply List.ext_getElem
    · simp
    · intro i h1 h2
      simp
      have h5 : i % 5 < 5 := by omega
      generalize i % 5 = r at h5
      rcases r with _ | _ | _ | _ | _ | r <;> first | rfl | omega
  have hst := run_storeCells_cells (P := Tryd.prog) b o (List.replicate (n * 5) (Value.int .i64 0)) 0 w (by simpa using hc) (by simpa using hf) (by intro v hv'; rw [List.eq_of_mem_replicate hv']; rfl)
  simp only [Nat.add_zero] at hst
  have hv : ∀ w, (zeroValue 38).run Tryd.prog w = .ok (.agg #[.int .i64 0, .int .i64 0, .int .i64 0, .int .i64 0, .int .i64 0]) w := Tryd.zeroValue38
  obtain ⟨m, rfl⟩ : ∃ m, n = m + 1 := ⟨n - 1, by omega⟩
  simp [Builtin.clear_, run_underlying Tryd.underlying22, hv, Value.cells, hzc, hst]
end Go.Proofs.YtfcoigcenheefaaDoor
