import Derived.Test.YtfcoigcenheefaaDoorChRows
import Derived.Test.YtfcoigcenheefaaDoorPkLight
import Derived.Test.YtfcoigcenheefaaDoorAlive
set_option linter.unusedVariables false
set_option linter.unusedSimpArgs false
namespace Go.Proofs.YtfcoigcenheefaaDoor
open Go.RowKit
theorem index9 (k : Nat) (s : List UInt8) (c : UInt8) (h : s[k]? = some c) (w : World) : (Instr.index 9 (.string ⟨s.toArray⟩) (.int .i64 k)).run Tryd.prog w = .ok (.int .u8 c.toNat) w := by
  have hk : k < s.length := (List.getElem?_eq_some_iff.1 h).1
  have h0 : (0 : Int) ≤ k := by omega
  have hc : (⟨s.toArray⟩ : ByteArray)[k]? = some c := by
    have : (⟨s.toArray⟩ : ByteArray)[k]? = s.toArray[k]? := by
      rw [getElem?_def, getElem?_def]
      rfl
    rw [this]; simpa using h
  simp [Instr.index, asIntOf, run_underlying Tryd.underlying9, h0, hc]
def RowShape (l : List Ev) (n i : Nat) (s : List UInt8) (D : Nat) : Prop := s.length = D + 1 + n ∧ (∀ t, t < D → s.getD t 0 ≠ 58) ∧ s.getD D 0 = 58 ∧ ∀ k, k < n → (s.getD (D + 1 + k) 0 ≠ 32 ↔ (l.getD k default).g = ((i + 1 : Nat) : Int))
theorem digits_ne (u : Nat) (h : u < 100) : ∀ t, t < (Lib.decDigits u).length → (Lib.decDigits u).getD t 0 ≠ 58 := by
  intro t ht
  by_cases h1 : u < 10
  · rw [Lib.decDigits_one h1] at ht ⊢
    obtain rfl : t = 0 := by simpa using ht
    intro e
    have := congrArg UInt8.toNat e
    simp at this
    omega
  · rw [Lib.decDigits_two h1 h] at ht ⊢
    simp at ht
    rcases t with _ | _ | t
    · intro e
      have := congrArg UInt8.toNat e
      simp at this
      omega
    · intro e
      have := congrArg UInt8.toNat e
      simp at this
      omega
    · omega
theorem rowShape_of {l : List Ev} {i : Nat} {s : List UInt8} (h : RowOk l (i + 1) s) (hi : i < 90) : ∃ D, D ≤ 30 ∧ RowShape l l.length i s D := by
  obtain ⟨bs, rfl, h1, h2⟩ := h
  refine ⟨(Lib.decDigits (i + 1)).length, dec_len (i + 1) (by omega), by simp; omega, fun t ht => ?_, ?_, fun k hk => ?_⟩
  · have := digits_ne (i + 1) (by omega) t ht
    rw [List.getD_eq_getElem?_getD, List.getElem?_append_left ht, ← List.getD_eq_getElem?_getD]; exact this
  · rw [List.getD_eq_getElem?_getD, List.getElem?_append_right (Nat.le_refl _)]; simp
  · have e : (Lib.decDigits (i + 1) ++ 58 :: bs).getD ((Lib.decDigits (i + 1)).length + 1 + k) 0 = bs.getD k 0 := by
      rw [List.getD_eq_getElem?_getD, List.getElem?_append_right (by omega), List.getD_eq_getElem?_getD]
      rw [show (Lib.decDigits (i + 1)).length + 1 + k - (Lib.decDigits (i + 1)).length = k + 1 by omega]
      simp
    rw [e]; exact h2 k hk
def cntV (l : List Ev) (i t : Nat) : Int := if (l.getD t default).g ≤ i then 1 else 0
def CL (l : List Ev) (n i k : Nat) : List Value := (List.range n).map fun t => .int .i64 (if t < k then cntV l (i + 1) t else cntV l i t)
theorem CL_next (l : List Ev) (n i : Nat) : CL l n i n = CL l n (i + 1) 0 := by
  unfold CL
  apply List.map_congr_left
  intro t ht
  have : t < n := by simpa using ht
  simp [this]
theorem CL_set (l : List Ev) (n i k : Nat) (hk : k < n) : (CL l n i k).set k (.int .i64 (cntV l (i + 1) k)) = CL l n i (k + 1) := by
  apply List.ext_getElem?
  intro t
  rw [List.getElem?_set]
  unfold CL
  simp only [List.length_map, List.length_range, List.getElem?_map]
  by_cases e : k = t
  · subst e; simp [hk]
  · by_cases ht : t < n
    · simp only [e, if_false, List.getElem?_range ht, Option.map_some]
      have : (t < k + 1) = (t < k) := by simp; omega
      simp only [this]
    · simp [e, List.getElem?_eq_none (show (List.range n).length ≤ t by simp; omega)]
theorem CL_at (l : List Ev) (n i k : Nat) (hk : k < n) : (CL l n i 0)[k]? = some (.int .i64 (cntV l i k)) := by
  unfold CL; simp [hk]
theorem CL_get (l : List Ev) (n i k : Nat) (hk : k < n) : (CL l n i k)[k]? = some (.int .i64 (cntV l i k)) := by
  unfold CL; simp [hk]
theorem CL_zero (l : List Ev) (n : Nat) (h : ∀ k, k < n → 1 ≤ (l.getD k default).g) : CL l n 0 0 = List.replicate n (.int .i64 0) := by
  apply List.ext_getElem
  · simp [CL]
  · intro t h1 h2
    have ht : t < n := by simpa [CL] using h1
    have := h t ht
    simp only [CL, List.getElem_map, List.getElem_range, List.getElem_replicate]
    simp only [Nat.not_lt_zero, if_false, cntV]
    rw [if_neg (by omega)]
theorem CL_same (l : List Ev) (n i k : Nat) (hk : k < n) (h : (l.getD k default).g ≠ ((i + 1 : Nat) : Int)) : CL l n i (k + 1) = CL l n i k := by
  unfold CL
  apply List.map_congr_left
  intro t ht
  by_cases e : t = k
  · subst e
    have : cntV l (i + 1) t = cntV l i t := by unfold cntV; split <;> split <;> first | rfl | omega
    simp [this]
  · have : (t < k + 1) = (t < k) := by simp; omega
    simp only [this]
theorem made_zero (n : Nat) : madeCells (Value.int .i64 0).cells (n * 1) = (List.replicate n (Value.int .i64 0)).toArray := by
  apply Array.ext
  · simp [size_madeCells]
  · intro i h1 h2
    simp [madeCells, Value.cells, Nat.mod_one]
set_option maxRecDepth 100000 in
set_option maxHeartbeats 8000000 in
theorem chartOnce_any (w : World) (v0 v : Value) (p : List Fn) (l : List Ev) (rows : List RowD) (hp : ProgAt w v0 p) (hpl : p.length ≤ maxLen) (hq : ∀ i, i < p.length → (p.getD i default).1.length ≤ maxLen ∧ (p.getD i default).2 ≤ maxLen) (ht : RowTab w rows) (h : EvsAt w v l) (hl : l.length ≤ maxLen) (hcp0 : ∀ a c, v = .slice a l.length c → l.length ≤ c ∧ c ≤ maxLen) :
    Calls Tryd.prog 10 #[.agg #[v0], v] w fun e w' => e = .returned (.bool true) ∧ Below w.heap.size w w' := by
  unfold maxLen at hl
  have hevs := h
  have HCP := Lib.hid hcp0
  obtain ⟨a, c, rfl, h2⟩ := h
  obtain ⟨n, hn⟩ : ∃ n, n = l.length := ⟨_, rfl⟩
  have HEV := Lib.hid hevs
  rw [← hn] at hl HEV ⊢
  have HN := Lib.hid hn
  have HP := Lib.hid hp
  have HT := Lib.hid ht
  obtain ⟨a0, c0, rfl, _⟩ := hp
  generalize hv0 : Value.slice a0 p.length c0 = v0 at HP ⊢
  obtain ⟨wa, ha⟩ : ∃ wa, wa = (w.alloc (Obj.cells #[v0] 44)) := ⟨_, rfl⟩
  have hba : Below w.heap.size w wa := by rw [ha]; exact (Below.refl _ _).alloc (Nat.le_refl _) _
  have cb : wa.cell? ⟨w.heap.size, 0, none⟩ = some v0 := by rw [ha]; simp
  have HL := Lib.hid (light_any wa v0 p (HP.out.below hba (Nat.le_refl _)) hpl hq)
  have HA := Lib.hid ha
  have HBA := Lib.hid hba
  clear hn h2 hevs hv0 hpl hq ht ha hba hcp0
  obtain ⟨r, hr⟩ : ∃ r, lightB p = r := ⟨_, rfl⟩
  rw [hr] at HL
  have HR := Lib.hid hr
  clear hr
  cases r
  · go_enter Tryd.func10, Tryd.ntmps10
    go_upto_region 1 with fail
    rw [← HA.out]
    go_wp2_with fail
    refine HL.out.mono ?_
    rintro e w1 ⟨rfl, hb1⟩
    have HB1 := Lib.hid (HBA.out.trans (hb1.mono HBA.out.size))
    clear hb1
    rename_i K1 K2 hK2
    refine hK2 _ _ ?_
    clear hK2
    go_wp2_with fail
    refine (alive_any w1).mono ?_
    rintro e w2 ⟨rfl, hb2⟩
    rename_i K1 K2 hK2
    refine hK2 _ _ ?_
    clear hK2
    go_wp2_with fail
    go_ret
    exact ⟨rfl, HB1.out.trans (hb2.mono HB1.out.size)⟩
  · have HLI := Lib.hid (light_all p HR.out)
    by_cases h100 : 100 < n
    · have h100' : (100 : Int) < n := by omega
      go_enter Tryd.func10, Tryd.ntmps10
      go_upto_region 1 with fail
      rw [← HA.out]
      go_wp2_with fail
      refine HL.out.mono ?_
      rintro e w1 ⟨rfl, hb1⟩
      have HB1 := Lib.hid (HBA.out.trans (hb1.mono HBA.out.size))
      clear hb1
      rename_i K1 K2 hK2
      refine hK2 _ _ ?_
      clear hK2
      go_wp2_with fail
      refine (alive_any w1).mono ?_
      rintro e w2 ⟨rfl, hb2⟩
      rename_i K1 K2 hK2
      refine hK2 _ _ ?_
      clear hK2
      go_wp2_with fail
      go_ret
      exact ⟨rfl, HB1.out.trans (hb2.mono HB1.out.size)⟩
    · have h100' : (n : Int) ≤ 100 := by omega
      by_cases hn0 : n = 0
      · subst hn0
        go_enter Tryd.func10, Tryd.ntmps10
        go_upto_region 1 with fail
        rw [← HA.out]
        go_wp2_with fail
        refine HL.out.mono ?_
        rintro e w1 ⟨rfl, hb1⟩
        have HB1 := Lib.hid (HBA.out.trans (hb1.mono HBA.out.size))
        clear hb1
        rename_i K1 K2 hK2
        refine hK2 _ _ ?_
        clear hK2
        go_wp2_with fail
        refine (alive_any w1).mono ?_
        rintro e w2 ⟨rfl, hb2⟩
        rename_i K1 K2 hK2
        refine hK2 _ _ ?_
        clear hK2
        go_wp2_with fail
        go_ret
        exact ⟨rfl, HB1.out.trans (hb2.mono HB1.out.size)⟩
      · have hn0' : ((n : Int) == 0) = false := by simp; omega
        go_enter Tryd.func10, Tryd.ntmps10
        go_upto_region 1 with fail
        rw [← HA.out]
        go_wp2_with fail
        refine HL.out.mono ?_
        rintro e w1 ⟨rfl, hb1⟩
        have HB1 := Lib.hid (HBA.out.trans (hb1.mono HBA.out.size))
        have hcb1 := below_cell hb1 (Nat.le_refl _) cb
        have HRows := Lib.hid (rows_any w1 v0 (.slice a n c) p l rows (HP.out.below HB1.out (Nat.le_refl _)) (by have := HLI.out.1; omega) (fun i hi => by have := HLI.out.2 i hi; omega) (HT.out.below HB1.out (Nat.le_refl _)) (HEV.out.below HB1.out (Nat.le_refl _)) (by have := HN.out; omega) (by have := HN.out; omega) (fun a' c' e => by rw [← HN.out] at e; have := HCP.out a' c' (by rw [← HN.out]; exact e); exact this))
        clear hb1 cb HL HA
        rename_i K1 K2 hK2
        refine hK2 _ _ ?_
        clear hK2
        go_wp2_with fail
        refine HRows.out.mono ?_
        rintro e w2 ⟨hres, hb2⟩
        have HB2 := Lib.hid (HB1.out.trans (hb2.mono HB1.out.size))
        clear hb2 HRows
        rcases hres with rfl | ⟨ss, v', rfl, ⟨base, hrow⟩, hs64, hrk, hgs⟩
        · rename_i K1 K2 hK2
          refine hK2 _ _ ?_
          clear hK2
          go_wp2_with fail
          refine (alive_any w2).mono ?_
          rintro e w3 ⟨rfl, hb3⟩
          rename_i K1 K2 hK2
          refine hK2 _ _ ?_
          clear hK2
          go_wp2_with fail
          go_ret
          exact ⟨rfl, HB2.out.trans (hb3.mono HB2.out.size)⟩
        · have HRK := Lib.hid hrk
          have HGS := Lib.hid hgs
          obtain ⟨sa, sc, rfl⟩ := row_form hrow
          have HROW := Lib.hid hrow
          rename_i K1 K2 hK2
          refine hK2 _ _ ?_
          clear hK2 hrk hgs hrow
          obtain ⟨i0, hi, hz0, hz1, hz2⟩ := info_parts Tryd.info3
          obtain ⟨w3, h3w⟩ : ∃ w3, w3 = w2.alloc (.cells (CL l n 0 0).toArray 3) := ⟨_, rfl⟩
          have hmk : (Instr.makeSlice 26 (.int .i64 n) (.int .i64 n)).run Tryd.prog w2 = .ok (.slice (some ⟨w2.heap.size, 0, none⟩) n n) w3 := by
            have := run_makeSlice (P := Tryd.prog) (w := w2) 26 3 i0 (.int .i64 0) Tryd.underlying26 hi hz0 .i64 .i64 n n (by omega) (Int.le_refl _) (by rw [hz1]; simp; omega) (by rw [hz2]; omega) (by omega)
            rw [this, h3w, hz1]
            simp only [Int.toNat_natCast]
            rw [made_zero, CL_zero l n (fun k hk => (HGS.out k (by have := HN.out; omega)).1)]
          have HB3 := Lib.hid (show w3.heap[w2.heap.size]? = some (.cells (CL l n 0 0).toArray 3 (0, 0)) by rw [h3w]; exact heap_alloc_new _ _)
          have HF3 : Hid (Frm (fun _ => False) w2 w3) := Lib.hid (by rw [h3w]; exact (Frm.refl _ _).alloc _)
          obtain ⟨NB, hNB⟩ : ∃ NB, w2.heap.size = NB := ⟨_, rfl⟩
          have HNB := Lib.hid hNB
          rw [hNB] at HB3 hmk
          clear h3w hNB
          go_wp2_with fail
          go_loopw [8, 9, 10] (fun s8 s9 s10 wr => ∃ i : Nat, i ≤ ss.length ∧ s8 = .int .i64 i ∧ Hid (wr.heap[NB]? = some (.cells (CL l n i 0).toArray 3 (0, 0))) ∧ Hid (Frm (fun q => q = NB) w3 wr)) (fun s8 _ _ _ => ss.length - (intOf s8).toNat)
          case atStart => exact ⟨0, Nat.zero_le _, rfl, HB3, Lib.hid (Frm.refl _ _)⟩
          case round =>
            obtain ⟨i, hil, rfl, hbk, hF⟩ := hrel
            by_cases hlt : i < ss.length
            · have ki0 : (0 : Int) ≤ (i : Int) := by omega
              have ki1 : (i : Int) < (ss.length : Int) := by omega
              obtain ⟨rb, rc, hv, _, hrb⟩ := HROW.out.form (by omega)
              simp only [Value.slice.injEq] at hv
              obtain ⟨rfl, _, rfl⟩ := hv
              have HRB : Hid (rb ≠ NB) := Lib.hid (by have := lt_of_own HROW.out (g := rb) rfl; have := HNB.out; intro e; omega)
              obtain ⟨D, hD, hshape⟩ := rowShape_of (HRK.out i hlt) (by omega)
              obtain ⟨s, hs⟩ : ∃ s, s = ss.getD i [] := ⟨_, rfl⟩
              rw [← hs, ← HN.out] at hshape
              have hrc : w3.cell? ⟨rb, i, none⟩ = some (.string ⟨s.toArray⟩) := by
                refine HF3.out.cell ?_ (fun e => e)
                rw [HROW.out.cellAt i (by omega), hs]
                simp [strV, List.getD, hlt]
              have HRC := Lib.hid hrc
              obtain ⟨hsl, hd1, hd2, hd3⟩ := hshape
              have HD1 := Lib.hid hd1
              have HD2 := Lib.hid hd2
              have HD3 := Lib.hid hd3
              have HSL := Lib.hid hsl
              obtain ⟨SL, hSL⟩ : ∃ SL, SL = s.length := ⟨_, rfl⟩
              have HSLE := Lib.hid hSL
              have hSLn : SL = D + 1 + n := by omega
              clear hs hrc hd1 hd2 hd3 hsl
              have hsz : (⟨s.toArray⟩ : ByteArray).size = SL := by rw [hSL]; simp [ByteArray.size]
              clear hSL
              obtain ⟨S, hS⟩ : ∃ S : ByteArray, S = ⟨s.toArray⟩ := ⟨_, rfl⟩
              have HSS := Lib.hid hS
              rw [← hS] at hsz HRC
              clear hS
              have hix9 := Lib.hid (fun (t : Nat) (ht : t < SL) (w : World) => (by rw [HSS.out]; exact index9 t s (s.getD t 0) (by have := HSLE.out; simp [List.getD, show t < s.length by omega]) w : (Instr.index 9 (.string S) (.int .i64 t)).run Tryd.prog w = .ok (.int .u8 (s.getD t 0).toNat) w))
              obtain ⟨wq, rfl⟩ : ∃ wq, wq = wr := ⟨_, rfl⟩
              have hrq : wq.cell? ⟨rb, i, none⟩ = some (.string S) := hF.out.cell HRC.out HRB.out
              go_wp2_with fail
              go_loopw [9] (fun s9 wr => ∃ t : Nat, t ≤ D ∧ s9 = .int .i64 t ∧ wr = wq) (fun s9 _ => D - (intOf s9).toNat)
              case atStart => exact ⟨0, Nat.zero_le _, rfl, rfl⟩
              case round =>
                obtain ⟨t, htD, rfl, rfl⟩ := hrel
                have kt0 : (0 : Int) ≤ (t : Int) := by omega
                have kt1 : (t : Int) < (SL : Int) := by omega
                have hx := hix9.out t (by omega)
                by_cases htl : t < D
                · have hne : (((s.getD t 0).toNat : Int) != 58) = true := by
                    have := HD1.out t htl
                    simp only [bne_iff_ne, ne_eq]
                    intro e
                    have e' : (s.getD t 0).toNat = 58 := by omega
                    exact this (UInt8.toNat_inj.1 (by rw [e']; rfl))
                  generalize ((s.getD t 0).toNat : Int) = ct at hx hne
                  go_wp2_with fail
                  go_roundw
                  case rel => exact ⟨t + 1, by omega, by go_num, (by first | trivial | rfl)⟩
                  case measure => simp [intOf]; omega
                · obtain rfl : D = t := by omega
                  have hc58 : ((s.getD D 0).toNat : Int) = 58 := by rw [HD2.out]; rfl
                  rw [hc58] at hx
                  go_wp2_with fail
                  go_loopw [10] (fun s10 wr => ∃ k : Nat, k ≤ n ∧ s10 = .int .i64 k ∧ Hid (wr.heap[NB]? = some (.cells (CL l n i k).toArray 3 (0, 0))) ∧ Hid (Frm (fun q => q = NB) w3 wr)) (fun s10 _ => n - (intOf s10).toNat)
                  case atStart => exact ⟨0, Nat.zero_le _, rfl, hbk, hF⟩
                  case round =>
                    obtain ⟨k, hkn, rfl, hbk3, hF3⟩ := hrel
                    by_cases hkl : k < n
                    · have kk0 : (0 : Int) ≤ (k : Int) := by omega
                      have kk1 : (k : Int) < (n : Int) := by omega
                      have hrq3 : wr.cell? ⟨rb, i, none⟩ = some (.string S) := hF3.out.cell HRC.out HRB.out
                      have hx3 := hix9.out (D + 1 + k) (by omega)
                      rw [show ((D + 1 + k : Nat) : Int) = (D : Int) + 1 + k by omega] at hx3
                      have hgk := HD3.out k hkl
                      have hnk : wr.cell? ⟨NB, k, none⟩ = some (.int .i64 (cntV l i k)) := by
                        rw [Lib.cell_of_heap hbk3.out]; simpa using CL_get l n i k hkl
                      have hnf : wr.frozen? ⟨NB, k, none⟩ = false := Lib.frozen_of_heap hbk3.out k
                      by_cases hg : (l.getD k default).g = ((i + 1 : Nat) : Int)
                      · have hne : (((s.getD (D + 1 + k) 0).toNat : Int) != 32) = true := by
                          have := hgk.2 hg
                          simp only [bne_iff_ne, ne_eq]
                          intro e
                          have e' : (s.getD (D + 1 + k) 0).toNat = 32 := by omega
                          exact this (UInt8.toNat_inj.1 (by rw [e']; rfl))
                        have hc0 : cntV l i k = 0 := by unfold cntV; rw [if_neg (by omega)]
                        have hc1 : cntV l (i + 1) k = 1 := by unfold cntV; rw [if_pos (by omega)]
                        have hset := Lib.hid (CL_set l n i k hkl)
                        rw [hc1] at hset
                        rw [hc0] at hnk
                        generalize ((s.getD (D + 1 + k) 0).toNat : Int) = ct at hx3 hne
                        clear hgk hg hc0 hc1
                        go_wp2_with fail
                        go_roundw
                        case rel =>
                          refine ⟨k + 1, by omega, by go_num, Lib.hid ?_, Lib.hid (hF3.out.setCell (p := ⟨NB, k, none⟩) (.inr rfl) _)⟩
                          rw [heap_setCell_same _ NB k _ _ _ hbk3.out, ← hset.out]; simp
                        case measure => simp [intOf]; omega
                      · have hne : (((s.getD (D + 1 + k) 0).toNat : Int) != 32) = false := by
                          have : s.getD (D + 1 + k) 0 = 32 := by
                            apply Decidable.byContradiction
                            intro e
                            exact hg (hgk.1 e)
                          rw [this]; rfl
                        have hsame := Lib.hid (CL_same l n i k hkl hg)
                        generalize ((s.getD (D + 1 + k) 0).toNat : Int) = ct at hx3 hne
                        clear hgk hg
                        go_wp2_with fail
                        go_roundw
                        case rel => exact ⟨k + 1, by omega, by go_num, Lib.hid (by rw [hsame.out]; exact hbk3.out), hF3⟩
                        case measure => simp [intOf]; omega
                    · obtain rfl : n = k := by omega
                      go_wp2_with fail
                      go_roundw
                      case rel => exact ⟨i + 1, by omega, by go_num, Lib.hid (by rw [← CL_next]; exact hbk3.out), hF3⟩
                      case measure => simp [intOf]; omega
            · have e : i = ss.length := by omega
              have HE := Lib.hid e
              have HBF := Lib.hid (HB2.out.trans ((Frm.below (B := w.heap.size) HF3.out HB2.out.size (fun q h => h.elim)).trans (Frm.below (B := w.heap.size) hF.out (by have := HB2.out.size; have := HF3.out.size; omega) (fun q h => by have := HNB.out; have := HB2.out.size; omega))))
              clear e
              go_wp2_with fail
              go_loopw [11] (fun s11 wz => ∃ k : Nat, k ≤ n ∧ s11 = .int .i64 k ∧ wz = wr) (fun s11 _ => n - (intOf s11).toNat)
              case atStart => exact ⟨0, Nat.zero_le _, rfl, rfl⟩
              case round =>
                obtain ⟨k, hkn, rfl, rfl⟩ := hrel
                by_cases hkl : k < n
                · have kk0 : (0 : Int) ≤ (k : Int) := by omega
                  have kk1 : (k : Int) < (n : Int) := by omega
                  have hnk : wr.cell? ⟨NB, k, none⟩ = some (.int .i64 1) := by
                    rw [Lib.cell_of_heap hbk.out]
                    have h1 := CL_at l n i k hkl
                    have h2 : cntV l i k = 1 := by
                      unfold cntV
                      rw [if_pos (by have := (HGS.out k (by have := HN.out; omega)).2; have := HE.out; omega)]
                    rw [h2] at h1
                    simpa using h1
                  go_wp2_with fail
                  go_roundw
                  case rel => exact ⟨k + 1, by omega, by go_num, (by first | trivial | rfl)⟩
                  case measure => simp [intOf]; omega
                · go_wp2_with fail
                  refine (alive_any wr).mono ?_
                  rintro e w4 ⟨rfl, hb4⟩
                  rename_i K1 K2 hK2
                  refine hK2 _ _ ?_
                  clear hK2
                  go_wp2_with fail
                  go_ret
                  exact ⟨rfl, HBF.out.trans (hb4.mono HBF.out.size)⟩
end Go.Proofs.YtfcoigcenheefaaDoor
