/-
  escapementlaw21.SigOnce: whatever m, due and acts come in: the call returns true, and the input reads as it did. No condition.
-/
import Derived.Test.YtfcoigcenheefaaRows
import Derived.Test.YtfcoigcenheefaaRead
import Derived.Test.YtfcoigcenheefaaSigH
import Derived.ChangeOld
import Derived.Below
set_option linter.unusedVariables false
set_option linter.unusedSimpArgs false
namespace Go.Proofs.Ytfcoigcenheefaa
open Go.ChangeShapes Go.WideShapes Go.ChangeAt Go.RowKit
namespace SigOnceDone

theorem own : ownKnob Try.prog.godebug = none := by kernel_rfl
theorem laidOut : laidOutB Try.prog = true := by kernel_rfl
theorem cells2 : Try.prog.cellsOf 2 = 1 := by kernel_rfl
theorem cells3 : Try.prog.cellsOf 3 = 1 := by kernel_rfl
theorem cells39 : Try.prog.cellsOf 39 = 3 := by kernel_rfl

section
variable {H : Type} {enc : TypeId × Value → H} {w : World}
theorem act_of {b o : Nat} (h : RdAt enc Try.prog w 39 b o) : ActAt w b o := by
  obtain ⟨n1, g1, w1⟩ := rdAt_int Try.underlying3 cells3 (rdAt_field Try.underlying39 h 1 _ rfl (of_decide_eq_true (by kernel_rfl)))
  obtain ⟨n2, g2, w2⟩ := rdAt_int Try.underlying2 cells2 (rdAt_field Try.underlying39 h 2 _ rfl (of_decide_eq_true (by kernel_rfl)))
  exact ⟨n1, n2, g1, g2⟩
end

set_option maxRecDepth 100000 in
theorem lifted (os : Os) (started : os.Started) (H : Type) (enc : TypeId × Value → H) :
    ReturnsInHanded {} Try.checked os 4 .any (Rows.sigOnceSpec.pre6 enc Try.prog Try.f4 Rows.sigOnceRow.domain false) (Rows.sigOnceSpec.post enc Try.prog Try.f4 false true false false) := by
  refine returnsInHanded_of_change (C := Try.checked) own started (by kernel_rfl) Try.func4
    (ChangeSpec.witness6 (enc := enc) (C := Try.checked) false ⟨#[], #[.int .i64 0, .int .i64 0, .slice none 0 0], []⟩ 8 (by kernel_rfl) (by kernel_rfl) (by kernel_rfl) (by kernel_rfl)) ?_
  intro W base args ds gs before hval0 hW hcnd _
  have hval : ∀ (j : Nat) t v, Try.f4.params[j]? = some t → args[j]? = some v → Value.okWide Try.prog W .any base t v := hval0
  have hW' := hW
  obtain ⟨p, q, hA0, hV, rfl, hfz, hnd⟩ := hW
  have hA : DataW.TrodAll enc Try.prog W 0 (fun _ => true) true Try.f4.params.toList args.toList ds p := hA0
  rw [Try.params4] at hA hval
  obtain ⟨v0, vs0, d0, ds0, p0, q0, hargs, rfl, rfl, h0, r0⟩ := trodAll_cons hA
  obtain ⟨v1, vs1, d1, ds1, p1, q1, rfl, rfl, rfl, h1, r1⟩ := trodAll_cons r0
  obtain ⟨v2, vs2, d2, ds2, p2, q2, rfl, rfl, rfl, h2, r2⟩ := trodAll_cons r1
  obtain ⟨rfl, rfl, rfl⟩ := trodAll_nil r2
  obtain rfl : args = #[v0, v1, v2] := by cases args; simp_all
  obtain ⟨rfl, rfl⟩ := trodVars_none hV
  obtain ⟨m, rfl, rfl, rfl, w0⟩ := open_int Try.underlying3 (hval 0 3 v0 rfl rfl) h0
  obtain ⟨due, rfl, rfl, rfl, w1⟩ := open_int Try.underlying2 (hval 1 2 v1 rfl rfl) h1
  obtain ⟨a2, len2, cap2, rfl⟩ := okWide_slice Try.underlying35 (hval 2 35 v2 rfl rfl)
  have k2 := h2
  have lt2 : ∀ x ∈ p2, x.block < W.heap.size := by obtain ⟨m, hm⟩ := k2; exact DataW.trod_lt m _ _ _ hm
  obtain ⟨fuel, hf⟩ := h2
  obtain ⟨a, len, cap, e1, hlc, hcm, _, b, o, hab, hall⟩ := rd_slice Try.underlying35 (by rw [cells39]; omega) (cs := Value.cells (.slice a2 len2 cap2) |>.toList) ⟨fuel, _, hf⟩
  simp [Value.cells] at e1
  obtain ⟨rfl, rfl, rfl⟩ := e1
  rw [cells39] at hall
  unfold maxLen at hcm
  have wd := wf_bd w1
  clear hA0 hval0
  refine (sigOnce_any W m due a2 b o len2 cap2 (by omega) hab (fun i hi => act_of (hall i hi)) wd.1 wd.2).mono fun e W' ⟨he, bel⟩ => ?_
  subst he
  exact ⟨_, rfl, _, _, _, [], _, [], hW', trodAll_mk1 (shut_bool Try.underlying4 _), (trodAll_cons_mk (shut_int Try.underlying3 w0) (trodAll_cons_mk (shut_int Try.underlying2 w1) (trodAll_cons_mk (Below.trod laidOut (by kernel_rfl) (of_decide_eq_true (by kernel_rfl)) k2 bel lt2) trodAll_mk0))), rfl, bel.frame _, fun h => by cases h⟩

theorem over : Rows.sigOnceRow.holds Try.pinned (OpenSpec.ofChange Rows.sigOnceSpec) :=
  OpenClaim.holds_of_wide 4 Try.f4 rfl rfl rfl rfl rfl rfl rfl ⟨rfl, rfl, rfl, rfl, rfl⟩ rfl rfl rfl rfl rfl (by kernel_rfl) Try.func4 (by kernel_rfl)
    (of_decide_eq_true (by kernel_rfl)) (by unfold Func.isWrapper; first | (rw [if_pos (by decide +kernel)]; kernel_rfl) | (rw [if_neg (by decide +kernel)]; exact ⟨rfl, rfl⟩))
    (fun os started H enc _ => lifted os started H enc)
end SigOnceDone

theorem sigOnce_holds : Rows.SigOnceSaid := SigOnceDone.over
#print axioms sigOnce_holds
end Go.Proofs.Ytfcoigcenheefaa
