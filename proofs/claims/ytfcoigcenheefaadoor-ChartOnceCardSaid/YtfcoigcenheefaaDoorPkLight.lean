import Derived.Test.YtfcoigcenheefaaDoorPkOp
import Derived.Test.YtfcoigcenheefaaDoorInv
set_option linter.unusedVariables false
set_option linter.unusedSimpArgs false
namespace Go.Proofs.YtfcoigcenheefaaDoor
open Go.RowKit
theorem light_all (p : List Fn) (h : lightB p = true) : p.length ≤ 20 ∧ ∀ i, i < p.length → (p.getD i default).1.length ≤ 70 := by
  simp only [lightB, Bool.and_eq_true, decide_eq_true_eq, List.all_eq_true] at h
  refine ⟨h.1, fun i hi => ?_⟩
  have := h.2 (p.getD i default) (by simp [List.getD, hi])
  simp only [lightF, Bool.and_eq_true, decide_eq_true_eq] at this
  exact this.1
theorem light_bad (p : List Fn) (i : Nat) (hi : i < p.length) (h : lightF (p.getD i default) = false) : lightB p = false := by
  have : p.all lightF = false := by
    rw [List.all_eq_false]
    exact ⟨p.getD i default, by simp [List.getD, hi], by rw [h]; simp⟩
  simp [lightB, this]
set_option maxRecDepth 100000 in
set_option maxHeartbeats 1000000 in
theorem light_any (w : World) (v : Value) (p : List Fn) (h : ProgAt w v p) (hp : p.length ≤ maxLen) (hq : ∀ i, i < p.length → (p.getD i default).1.length ≤ maxLen ∧ (p.getD i default).2 ≤ maxLen) :
    Calls Tryd.prog 33 #[.agg #[v]] w fun e w' => e = .returned (.bool (lightB p)) ∧ Below w.heap.size w w' := by
  unfold maxLen at hp hq
  obtain ⟨a, c, rfl, h2⟩ := h
  obtain ⟨n, hn⟩ : ∃ n, n = p.length := ⟨_, rfl⟩
  rw [← hn] at hp ⊢
  have HN := Lib.hid hn
  have H2 := Lib.hid h2
  have HQ := Lib.hid hq
  obtain ⟨wa, ha⟩ : ∃ wa, wa = (w.alloc (Obj.cells #[Value.slice a n c] 44)) := ⟨_, rfl⟩
  have hba : Below w.heap.size w wa := by rw [ha]; exact (Below.refl _ _).alloc (Nat.le_refl _) _
  have cb : wa.cell? ⟨w.heap.size, 0, none⟩ = some (.slice a n c) := by rw [ha]; simp
  have HA := Lib.hid ha
  have HBA := Lib.hid hba
  clear hn h2 hq ha hba
  by_cases h20 : 20 < n
  · have hL : Hid (lightB p = false) := Lib.hid (by have := HN.out; simp [lightB]; omega)
    have h20' : (20 : Int) < n := by omega
    go_enter Tryd.func33, Tryd.ntmps33
    go_upto_region 1 with fail
    rw [← HA.out]
    go_wp2_with fail
    go_ret
    exact ⟨by rw [hL.out]; rfl, HBA.out⟩
  · have h20' : (n : Int) ≤ 20 := by omega
    go_enter Tryd.func33, Tryd.ntmps33
    go_upto_region 1 with fail
    rw [← HA.out]
    go_wp2_with fail
    go_loopw [3] (fun s3 wr => ∃ k : Nat, k ≤ n ∧ s3 = .int .i64 k ∧ wr = wa ∧ Hid (∀ t, t < k → lightF (p.getD t default) = true)) (fun s3 _ => n - (intOf s3).toNat)
    case atStart => exact ⟨0, Nat.zero_le _, rfl, rfl, Lib.hid (fun t ht => by omega)⟩
    case round =>
      obtain ⟨k, hk, rfl, rfl, hall⟩ := hrel
      by_cases hlt : k < n
      · have hkl : k < p.length := by have := HN.out; omega
        obtain ⟨b, o, rfl, hev⟩ := H2.out (by omega)
        obtain ⟨ca, cc, sa, sc, e1, e2, _⟩ := (hev k hkl).below HBA.out (Nat.le_refl _)
        have hq1 := (HQ.out k hkl).1
        have hq2 := (HQ.out k hkl).2
        have HBAD := Lib.hid (fun h => light_bad p k hkl h)
        have HF := Lib.hid (show lightF (p.getD k default) = (decide ((p.getD k default).1.length ≤ 70) && decide ((p.getD k default).2 ≤ 70)) from rfl)
        generalize hL1 : (p.getD k default).1.length = L1 at *
        generalize hL2 : (p.getD k default).2 = L2 at *
        have k0 : (0 : Int) ≤ (k : Int) := by omega
        have k1 : (k : Int) < (n : Int) := by omega
        clear hev hL1 hL2
        by_cases g1 : 70 < L1
        · have g1' : (70 : Int) < L1 := by omega
          have HX := Lib.hid (HBAD.out (by rw [HF.out]; simp; omega))
          go_wp2_with fail
          go_ret
          exact ⟨by rw [HX.out]; rfl, HBA.out⟩
        · have g1' : (L1 : Int) ≤ 70 := by omega
          by_cases g2 : 70 < L2
          · have g2' : (70 : Int) < L2 := by omega
            have HX := Lib.hid (HBAD.out (by rw [HF.out]; simp; omega))
            go_wp2_with fail
            go_ret
            exact ⟨by rw [HX.out]; rfl, HBA.out⟩
          · have g2' : (L2 : Int) ≤ 70 := by omega
            have HX := Lib.hid (show lightF (p.getD k default) = true by rw [HF.out]; simp; omega)
            go_wp2_with fail
            go_roundw
            case rel =>
              refine ⟨k + 1, by omega, by go_num, (by first | trivial | rfl), Lib.hid (fun t ht => ?_)⟩
              by_cases e : t = k
              · subst e; exact HX.out
              · exact hall.out t (by omega)
            case measure => simp [intOf]; omega
      · have e : k = n := by omega
        have HE := Lib.hid e
        clear e
        have HX := Lib.hid (show lightB p = true by
          simp only [lightB, Bool.and_eq_true, decide_eq_true_eq, List.all_eq_true]
          refine ⟨by have := HN.out; omega, fun x hx => ?_⟩
          obtain ⟨t, ht, rfl⟩ := List.getElem_of_mem hx
          have := hall.out t (by have := HN.out; have := HE.out; omega)
          simpa [List.getD, ht] using this)
        go_wp2_with fail
        go_ret
        exact ⟨by rw [HX.out]; rfl, HBA.out⟩
end Go.Proofs.YtfcoigcenheefaaDoor
