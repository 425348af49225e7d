import Derived.Test.YtfcoigcenheefaaDoorEvSame
import Derived.Test.YtfcoigcenheefaaDoorInv
import Derived.Test.YtfcoigcenheefaaDoorShelf
import Derived.Lib.ItoaLen
set_option linter.unusedVariables false
set_option linter.unusedSimpArgs false
namespace Go.Proofs.YtfcoigcenheefaaDoor
open Go.RowKit
def strV (l : List UInt8) : Value := .string ⟨l.toArray⟩
theorem info9 : (Tryd.prog.info? 9).map (fun i => (i.zero, i.size, i.bytes)) = some (some (.string ⟨#[]⟩), 1, 16) := by kernel_rfl
def putL (xs : List (List UInt8)) (ns : List Nat) (k : Nat) : List (List UInt8) := xs ++ (ns.take k).map Lib.decDigits
theorem putL_len (xs : List (List UInt8)) (ns : List Nat) {k : Nat} (h : k ≤ ns.length) : (putL xs ns k).length = xs.length + k := by simp [putL]; omega
theorem take_succ'' {l : List Nat} {k : Nat} (h : k < l.length) : l.take (k + 1) = l.take k ++ [l.getD k 0] := by
  rw [List.take_add_one, List.getElem?_eq_getElem h]
  simp [List.getD, h]
theorem putL_succ (xs : List (List UInt8)) (ns : List Nat) {k : Nat} (h : k < ns.length) : putL xs ns (k + 1) = putL xs ns k ++ [Lib.decDigits (ns.getD k 0)] := by
  rw [putL, putL, take_succ'' h]
  simp

set_option maxRecDepth 100000 in
set_option maxHeartbeats 1000000 in
theorem put_any (w : World) (base bw q : Nat) (v0 : Value) (xs : List (List UInt8)) (ns : List Nat) (hn : ∀ k, k < ns.length → ns.getD k 0 < 100) (hlen : xs.length + ns.length ≤ 1000)
    (hbk : w.heap[bw]? = some (.cells #[v0] 79 (0, 0))) (hown : w.ownsRow base 9 1 v0 xs.length (xs.map strV)) (hne : v0.ownBlock ≠ some bw) (hbase : base ≤ w.heap.size)
    (hq : ∀ k, k < ns.length → w.cell? ⟨q, k, none⟩ = some (.int .i64 (ns.getD k 0 : Nat))) (hq1 : q ≠ bw) (hq2 : v0.ownBlock ≠ some q) :
    Calls Tryd.prog 67 #[.slice (some ⟨q, 0, none⟩) ns.length ns.length, .pointer (some ⟨bw, 0, none⟩)] w fun e w' => e = .returned (.tuple #[]) ∧
      ∃ v, w'.heap[bw]? = some (.cells #[v] 79 (0, 0)) ∧ w'.ownsRow base 9 1 v (xs.length + ns.length) ((putL xs ns ns.length).map strV) ∧ v.ownBlock ≠ some bw ∧ Frm (fun j => j = bw ∨ v0.ownBlock = some j) w w' := by
  obtain ⟨i0, hi, hz0, hz1, hz2⟩ := info_parts info9
  obtain ⟨m, hm⟩ : ∃ m, m = ns.length := ⟨_, rfl⟩
  rw [← hm] at hlen ⊢
  have HM := Lib.hid hm
  have HN := Lib.hid hn
  have HQ := Lib.hid hq
  have HBK := Lib.hid hbk
  have HOWN := Lib.hid hown
  have HNE := Lib.hid hne
  have HQ1 := Lib.hid hq1
  have HQ2 := Lib.hid hq2
  have hbwlt := lt_of_block hbk
  clear hm hn hq hbk hown hne hq1 hq2
  go_enter Tryd.func67, Tryd.ntmps67
  go_wp2_with fail
  go_loopw [4, 7] (fun _ s7 wr => ∃ (k : Nat) (v : Value), k ≤ m ∧ s7 = .int .i64 k ∧ wr.heap[bw]? = some (.cells #[v] 79 (0, 0)) ∧ wr.ownsRow base 9 1 v (xs.length + k) ((putL xs ns k).map strV) ∧ Hid (v.ownBlock ≠ some bw) ∧ Hid (∀ j, v.ownBlock = some j → v0.ownBlock = some j ∨ w.heap.size ≤ j) ∧ Hid (Frm (fun j => j = bw ∨ v0.ownBlock = some j) w wr)) (fun _ s7 _ => m - (intOf s7).toNat)
  case atStart => exact ⟨0, v0, Nat.zero_le _, rfl, HBK.out, by simpa [putL] using HOWN.out, HNE, Lib.hid (fun j hj => .inl hj), Lib.hid (Frm.refl _ _)⟩
  case round =>
    obtain ⟨k, v, hk, rfl, hbk, hown, hne, hfar, hF⟩ := hrel
    by_cases hlt : k < m
    · have k0 : (0 : Int) ≤ (k : Int) := by omega
      have k1 : (k : Int) < (m : Int) := by omega
      have hkn : k < ns.length := by rw [← HM.out]; exact hlt
      have HKN := Lib.hid hkn
      have c0 : wr.cell? ⟨bw, 0, none⟩ = some v := by rw [Lib.cell_of_heap hbk]; rfl
      have cq : wr.cell? ⟨q, k, none⟩ = some (.int .i64 (ns.getD k 0 : Nat)) := hF.out.cell (HQ.out k hkn) (fun e => e.elim HQ1.out HQ2.out)
      have hsm := HN.out k hkn
      obtain ⟨x, hx⟩ : ∃ x, x = ns.getD k 0 := ⟨_, rfl⟩
      rw [← hx] at cq hsm
      have HX := Lib.hid hx
      have hI := fun w => Tryd.strconv_Itoa_small x hsm w
      have HI := Lib.hid hI
      have HOW := Lib.hid hown
      have HB := Lib.hid hbk
      have hz := hF.out.size
      have hbwl := lt_of_block hbk
      clear hx hI hown hbk hkn
      go_wp2_with fail
      have hm1 : xs.length + k + 1 ≤ maxLen := by unfold maxLen; omega
      have hm2 : (xs.length + k + 1) * 16 ≤ 140737488355328 := by omega
      have hm3 : base ≤ (wr.drew.alloc (.cells #[.string ⟨(Lib.decDigits x).toArray⟩] 9)).heap.size := by simp; omega
      have ct : wr.drew.cell? ⟨bw, 0, none⟩ = some v := c0
      have HAP : Hid (∀ w3, (wr.drew.alloc (.cells #[.string ⟨(Lib.decDigits x).toArray⟩] 9)).grownBy w3 v.ownBlock → w3.heap[bw]? = some (.cells #[v] 79 (0, 0))) := Lib.hid (fun w3 hgr => by
        rw [hgr.block bw (by simp; omega) (Ne.symm hne.out)]
        rw [heap_alloc_old _ _ (by simpa using hbwl)]; exact HB.out)
      have cta : (wr.drew.alloc (.cells #[.string ⟨(Lib.decDigits x).toArray⟩] 9)).cell? ⟨bw, 0, none⟩ = some v := Lib.cell?_alloc_some _ ct
      go_region_law (first
        | (go_simp; refine (HI.out _).mono ?_; rintro e w2 ⟨rfl, hw⟩; cases hw)
        | (refine step_append_lies _ rfl _ _ 79 rfl base 9 i0 (.string ⟨#[]⟩) 1 16 Tryd.underlying79 hi hz0 hz1 hz2 rfl (by decide) _ _ _ rfl (HOW.out.drew.alloc _) ⟨wr.heap.size, 0, none⟩ 1 1 [.string ⟨(Lib.decDigits x).toArray⟩] rfl rfl (news_of _ _ _) (by simp [Value.oneCell']) (by decide) hm1 hm2 hm3 (wr.heap.size + 1) (by simp) ?_; intro g cap' w3 hown3 hgr hat hlt3; have c0' : w3.cell? ⟨bw, 0, none⟩ = some v := (Lib.cell_of_heap (HAP.out w3 hgr) _).trans rfl; have f0' : w3.frozen? ⟨bw, 0, none⟩ = false := Lib.frozen_of_heap (HAP.out w3 hgr) 0))
      all_goals
        have hbk3 := HAP.out w3 hgr
        have hgb : g ≠ bw := by
          rintro rfl
          obtain ⟨cur, q, _⟩ := row_block hown3 (g := g) rfl
          rw [hbk3] at q; simp at q
        have HGB := Lib.hid hgb
        have HAT := Lib.hid hat
        have hown4 := ownsRow_setCell_other hown3 (a := ⟨bw, 0, none⟩) (by
          simp [Value.ownBlock]
          exact hgb) (.slice (some ⟨g, 0, none⟩) (xs.length + k + 1) cap')
        have hF3 := (((hF.out.drew.alloc (.cells #[.string ⟨(Lib.decDigits x).toArray⟩] 9)).grown hgr (fun j hj => ((hfar.out j hj).elim (fun h => .inr (.inr h)) .inl))).setCell (p := ⟨bw, 0, none⟩) (.inr (.inl rfl)) (.slice (some ⟨g, 0, none⟩) (xs.length + k + 1) cap'))
        have hbk4 : (w3.setCell ⟨bw, 0, none⟩ (.slice (some ⟨g, 0, none⟩) (xs.length + k + 1) cap')).heap[bw]? = some (.cells #[.slice (some ⟨g, 0, none⟩) (xs.length + k + 1) cap'] 79 (0, 0)) := by
          rw [heap_setCell_same _ bw 0 _ _ _ hbk3]; rfl
        have HB4 := Lib.hid hbk4
        have HO4 := Lib.hid hown4
        have HF4 := Lib.hid hF3
        clear hbk4 hown4 hF3 hbk3 hown3 hgb hat
        go_wp2_with fail
        go_roundw
        case rel =>
          refine ⟨k + 1, _, by omega, by go_num, HB4.out, ?_, ?_, ?_, HF4⟩
          · rw [putL_succ xs ns HKN.out, List.map_append, ← HX.out]; exact HO4.out
          · exact Lib.hid (by simp [Value.ownBlock]; exact HGB.out)
          · refine Lib.hid (fun j hj => ?_)
            have hj' : g = j := by simpa [Value.ownBlock] using hj
            subst hj'
            rcases HAT.out with h | h
            · exact hfar.out g h
            · right; rw [h]; omega
        case measure => simp [intOf]; omega
    · have e : k = m := by omega
      have HE := Lib.hid e
      clear e
      go_wp2_with fail
      go_end0
      refine ⟨rfl, v, hbk, ?_, hne.out, hF.out⟩
      rw [← HE.out]; exact hown
end Go.Proofs.YtfcoigcenheefaaDoor
