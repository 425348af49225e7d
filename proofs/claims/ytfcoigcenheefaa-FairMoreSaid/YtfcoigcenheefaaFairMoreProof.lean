/-
  escapementlaw31.FairMore: whatever k, more and steps come in: the call returns true, and the input reads as it did. No condition.
-/
import Derived.Test.YtfcoigcenheefaaRows
import Derived.Test.YtfcoigcenheefaaRead
import Derived.Test.YtfcoigcenheefaaMore
import Derived.ChangeOld
import Derived.Below
set_option linter.unusedVariables false
set_option linter.unusedSimpArgs false
namespace Go.Proofs.Ytfcoigcenheefaa
open Go.ChangeShapes Go.WideShapes Go.ChangeAt Go.RowKit
namespace FairMoreDone

theorem own : ownKnob Try.prog.godebug = none := by kernel_rfl
theorem laidOut : laidOutB Try.prog = true := by kernel_rfl
theorem cells3 : Try.prog.cellsOf 3 = 1 := by kernel_rfl
theorem cells4 : Try.prog.cellsOf 4 = 1 := by kernel_rfl
theorem cells28 : Try.prog.cellsOf 28 = 1 := by kernel_rfl
theorem cells30 : Try.prog.cellsOf 30 = 3 := by kernel_rfl
theorem cells32 : Try.prog.cellsOf 32 = 4 := by kernel_rfl

section
variable {H : Type} {enc : TypeId × Value → H} {w : World}
theorem bools_of {v : Value} (h : Rd enc Try.prog w 28 [v]) : ∃ ps, BoolsAt w v ps := by
  obtain ⟨a, len, cap, h1, _, _, _, b, o, h2, h3⟩ := rd_slice Try.underlying28 (by rw [cells4]; omega) h
  rw [cells4] at h3
  obtain ⟨l, h4, h5⟩ := list_of (α := Bool) (p := fun i x => w.cell? ⟨b, o + i, none⟩ = some (.bool x)) (fun i hi => by
    have := rdAt_bool Try.underlying4 cells4 (h3 i hi)
    simpa using this)
  simp at h1; subst h1
  subst h4
  exact ⟨l, a, cap, rfl, fun h0 => ⟨b, o, h2 h0, fun i hi => h5 i hi⟩⟩
theorem st_of {b o : Nat} (h : RdAt enc Try.prog w 32 b o) : ∃ s pv, StAt w b o s pv := by
  have f0 := rdAt_field Try.underlying32 h 0 _ rfl (of_decide_eq_true (by kernel_rfl))
  have f1 := rdAt_field Try.underlying32 h 1 _ rfl (of_decide_eq_true (by kernel_rfl))
  obtain ⟨pv, c0, r0⟩ := rdAt_one cells28 f0
  obtain ⟨ps, hps⟩ := bools_of r0
  obtain ⟨n0, g0, w0⟩ := rdAt_int Try.underlying3 cells3 (rdAt_field Try.underlying30 f1 0 _ rfl (of_decide_eq_true (by kernel_rfl)))
  obtain ⟨n1, g1, w1⟩ := rdAt_int Try.underlying3 cells3 (rdAt_field Try.underlying30 f1 1 _ rfl (of_decide_eq_true (by kernel_rfl)))
  obtain ⟨n2, g2, w2⟩ := rdAt_int Try.underlying3 cells3 (rdAt_field Try.underlying30 f1 2 _ rfl (of_decide_eq_true (by kernel_rfl)))
  exact ⟨⟨ps, n0, n1, n2⟩, pv, ⟨c0, g0, g1, g2, hps, wf_bd w0, wf_bd w1⟩⟩
end

set_option maxRecDepth 100000 in
theorem lifted (os : Os) (started : os.Started) (H : Type) (enc : TypeId × Value → H) :
    ReturnsInHanded {} Try.checked os 3 .any (Rows.fairMoreSpec.pre6 enc Try.prog Try.f3 Rows.fairMoreRow.domain false) (Rows.fairMoreSpec.post enc Try.prog Try.f3 false true false false) := by
  refine returnsInHanded_of_change (C := Try.checked) own started (by kernel_rfl) Try.func3
    (ChangeSpec.witness6 (enc := enc) (C := Try.checked) false ⟨#[], #[.int .i64 0, .int .i64 0, .slice none 0 0], []⟩ 8 (by kernel_rfl) (by kernel_rfl) (by kernel_rfl) (by kernel_rfl)) ?_
  intro W base args ds gs before hval0 hW hcnd _
  have hval : ∀ (j : Nat) t v, Try.f3.params[j]? = some t → args[j]? = some v → Value.okWide Try.prog W .any base t v := hval0
  have hW' := hW
  obtain ⟨p, q, hA0, hV, rfl, hfz, hnd⟩ := hW
  have hA : DataW.TrodAll enc Try.prog W 0 (fun _ => true) true Try.f3.params.toList args.toList ds p := hA0
  rw [Try.params3] at hA hval
  obtain ⟨v0, vs0, d0, ds0, p0, q0, hargs, rfl, rfl, h0, r0⟩ := trodAll_cons hA
  obtain ⟨v1, vs1, d1, ds1, p1, q1, rfl, rfl, rfl, h1, r1⟩ := trodAll_cons r0
  obtain ⟨v2, vs2, d2, ds2, p2, q2, rfl, rfl, rfl, h2, r2⟩ := trodAll_cons r1
  obtain ⟨rfl, rfl, rfl⟩ := trodAll_nil r2
  obtain rfl : args = #[v0, v1, v2] := by cases args; simp_all
  obtain ⟨rfl, rfl⟩ := trodVars_none hV
  obtain ⟨k, rfl, rfl, rfl, w0⟩ := open_int Try.underlying3 (hval 0 3 v0 rfl rfl) h0
  obtain ⟨more, rfl, rfl, rfl, w1⟩ := open_int Try.underlying3 (hval 1 3 v1 rfl rfl) h1
  obtain ⟨a2, len2, cap2, rfl⟩ := okWide_slice Try.underlying22 (hval 2 22 v2 rfl rfl)
  have k2 := h2
  have lt2 : ∀ x ∈ p2, x.block < W.heap.size := by obtain ⟨m, hm⟩ := k2; exact DataW.trod_lt m _ _ _ hm
  obtain ⟨fuel, hf⟩ := h2
  obtain ⟨a, len, cap, e1, hlc, hcm, _, b, o, hab, hall⟩ := rd_slice Try.underlying22 (by rw [cells32]; omega) (cs := Value.cells (.slice a2 len2 cap2) |>.toList) ⟨fuel, _, hf⟩
  simp [Value.cells] at e1
  obtain ⟨rfl, rfl, rfl⟩ := e1
  rw [cells32] at hall
  obtain ⟨l, hl1, hl2⟩ := list_of (fun i hi => st_of (hall i hi))
  unfold maxLen at hcm
  clear hA0 hval0
  refine (fairMore_any W a2 b o cap2 l len2 hl1.symm (by omega) hab hl2 k more).mono fun e W' ⟨he, bel⟩ => ?_
  subst he
  exact ⟨_, rfl, _, _, _, [], _, [], hW', trodAll_mk1 (shut_bool Try.underlying4 _), (trodAll_cons_mk (shut_int Try.underlying3 w0) (trodAll_cons_mk (shut_int Try.underlying3 w1) (trodAll_cons_mk (Below.trod laidOut (by kernel_rfl) (of_decide_eq_true (by kernel_rfl)) k2 bel lt2) trodAll_mk0))), rfl, bel.frame _, fun h => by cases h⟩

theorem over : Rows.fairMoreRow.holds Try.pinned (OpenSpec.ofChange Rows.fairMoreSpec) :=
  OpenClaim.holds_of_wide 3 Try.f3 rfl rfl rfl rfl rfl rfl rfl ⟨rfl, rfl, rfl, rfl, rfl⟩ rfl rfl rfl rfl rfl (by kernel_rfl) Try.func3 (by kernel_rfl)
    (of_decide_eq_true (by kernel_rfl)) (by unfold Func.isWrapper; first | (rw [if_pos (by decide +kernel)]; kernel_rfl) | (rw [if_neg (by decide +kernel)]; exact ⟨rfl, rfl⟩))
    (fun os started H enc _ => lifted os started H enc)
end FairMoreDone

theorem fairMore_holds : Rows.FairMoreSaid := FairMoreDone.over
#print axioms fairMore_holds
end Go.Proofs.Ytfcoigcenheefaa
