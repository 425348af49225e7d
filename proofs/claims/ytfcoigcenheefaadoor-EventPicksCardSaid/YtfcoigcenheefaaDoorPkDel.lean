import Derived.Test.YtfcoigcenheefaaDoorPkClone
set_option linter.unusedVariables false
set_option linter.unusedSimpArgs false
namespace Go.Proofs.YtfcoigcenheefaaDoor
open Go.RowKit
/-- The list in memory while DeleteFunc runs: i kept of the first j. -/
structure DelSt (g : Int) (l M : List Ev) (i j : Nat) : Prop where
  len : M.length = l.length
  lt : i < j
  le : j ≤ l.length
  low : M.take i = (l.take j).filter (keepE g)
  high : ∀ t, j ≤ t → t < l.length → M.getD t default = l.getD t default
theorem take_succE {l : List Ev} {k : Nat} (h : k < l.length) : l.take (k + 1) = l.take k ++ [l.getD k default] := by
  rw [List.take_add_one, List.getElem?_eq_getElem h]; simp [List.getD, h]
theorem filter_all (g : Int) (l : List Ev) (k : Nat) (hk : k ≤ l.length) (h : ∀ t, t < k → keepE g (l.getD t default) = true) : (l.take k).filter (keepE g) = l.take k := by
  rw [List.filter_eq_self]
  intro x hx
  obtain ⟨t, ht, rfl⟩ := List.getElem_of_mem hx
  have ht' : t < k := by simp at ht; omega
  have := h t ht'
  simpa [List.getD, show t < l.length by omega] using this
theorem filt1 {g : Int} {x : Ev} (h : keepE g x = true) : [x].filter (keepE g) = [x] := by simp [List.filter, h]
theorem filt0 {g : Int} {x : Ev} (h : keepE g x = false) : [x].filter (keepE g) = [] := by simp [List.filter, h]
theorem DelSt.start {g : Int} {l : List Ev} {k : Nat} (hk : k < l.length) (h1 : keepE g (l.getD k default) = false) (h2 : ∀ t, t < k → keepE g (l.getD t default) = true) : DelSt g l l k (k + 1) :=
  ⟨rfl, by omega, hk, by rw [take_succE hk, List.filter_append, filter_all g l k (by omega) h2, filt0 h1, List.append_nil], fun _ _ _ => rfl⟩
theorem DelSt.skip {g : Int} {l M : List Ev} {i j : Nat} (h : DelSt g l M i j) (hj : j < l.length) (h1 : keepE g (l.getD j default) = false) : DelSt g l M i (j + 1) :=
  ⟨h.len, by have := h.lt; omega, hj, by rw [take_succE hj, List.filter_append, ← h.low, filt0 h1, List.append_nil], fun t ht h2 => h.high t (by omega) h2⟩
theorem DelSt.keep {g : Int} {l M : List Ev} {i j : Nat} (h : DelSt g l M i j) (hj : j < l.length) (h1 : keepE g (l.getD j default) = true) : DelSt g l (M.set i (l.getD j default)) (i + 1) (j + 1) := by
  have hlt := h.lt
  refine ⟨by simpa using h.len, by omega, hj, ?_, fun t ht h2 => ?_⟩
  · have hi : i < (M.set i (l.getD j default)).length := by rw [List.length_set, h.len]; omega
    rw [take_succE hi, take_succE hj, List.filter_append, ← h.low, List.take_set_of_le (Nat.le_refl _)]
    have : (M.set i (l.getD j default)).getD i default = l.getD j default := by
      have hi2 : i < M.length := by simpa using hi
      simp [List.getD, hi2]
    rw [this, filt1 h1]
  · have hne : i ≠ t := by omega
    have := h.high t (by omega) h2
    rw [← this]
    simp [List.getD, List.getElem?_set, hne]
/-- A row of events lies at the head of a block. -/
def RowE (w : World) (b : Nat) (M : List Ev) : Prop := ∀ t, t < M.length → EvAt w b (t * 5) (M.getD t default)
def Unfz (w : World) (b n : Nat) : Prop := ∀ t, t < n → w.frozen? ⟨b, t, none⟩ = false
theorem rowE_set {w : World} {b : Nat} {M : List Ev} (h : RowE w b M) {i : Nat} (hi : i < M.length) (x : Ev) : RowE (w.setCells b (i * 5) (evC x)) b (M.set i x) := by
  have hs : ∀ j, j < (evC x).length → (w.cell? ⟨b, i * 5 + j, none⟩).isSome = true := fun j hj => by
    rw [(h i hi).cellN j hj]; simp; exact hj
  intro t ht
  have ht' : t < M.length := by simpa using ht
  by_cases e : t = i
  · subst e
    have hx : (M.set t x).getD t default = x := by simp [List.getD, ht']
    rw [hx]
    have one : ∀ j, j < 5 → (w.setCells b (t * 5) (evC x)).cell? ⟨b, t * 5 + j, none⟩ = (evC x)[j]? := fun j hj => by
      exact (World.cell?_setCells_in b (evC x) (t * 5) w hs j hj).trans (List.getElem?_eq_getElem (show j < (evC x).length from hj)).symm
    exact ⟨one 0 (by decide), one 1 (by decide), one 2 (by decide), one 3 (by decide), one 4 (by decide)⟩
  · have hx : (M.set i x).getD t default = M.getD t default := by simp [List.getD, List.getElem?_set, Ne.symm e]
    rw [hx]
    have one : ∀ j, j < 5 → (w.setCells b (i * 5) (evC x)).cell? ⟨b, t * 5 + j, none⟩ = (evC (M.getD t default))[j]? := fun j hj => by
      rw [← (h t ht').cellN j hj]
      refine World.cell?_setCells_out b _ _ _ _ (fun _ _ => ?_)
      simp only [evC, List.length_cons, List.length_nil]
      omega
    exact ⟨one 0 (by decide), one 1 (by decide), one 2 (by decide), one 3 (by decide), one 4 (by decide)⟩
theorem rowE_below {w w' : World} {B b : Nat} {M : List Ev} (h : RowE w b M) (hb : Below B w w') (hB : w.heap.size ≤ B) : RowE w' b M := fun t ht => (h t ht).below hb hB
theorem unfz_below {w w' : World} {B b n : Nat} (h : Unfz w b n) (hb : Below B w w') (hB : b < B) : Unfz w' b n := fun t ht => (World.frozen?_of_block (hb.block b hB)).trans (h t ht)
theorem unfz_set {w : World} {b n : Nat} (h : Unfz w b n) (o : Nat) (vs : List Value) : Unfz (w.setCells b o vs) b n := fun t ht => by rw [World.frozen?_setCells]; exact h t ht
theorem frm_set {a w : World} {b : Nat} (h : Frm (fun q => q = b) a w) : ∀ (o : Nat) (vs : List Value), Frm (fun q => q = b) a (w.setCells b o vs) := by
  intro o vs
  induction vs generalizing o w with
  | nil => exact h
  | cons v vs ih => exact ih (h.setCell (p := ⟨b, o, none⟩) (.inr rfl) v) (o + 1)
set_option maxRecDepth 100000 in
set_option maxHeartbeats 2000000 in
theorem del_any (w : World) (base : Nat) (v : Value) (l : List Ev) (hown : w.ownsRow base 38 5 v l.length (flatE l)) (hl : l.length ≤ 1000) (B : Nat) (g : Int) (hB : w.cell? ⟨B, 0, none⟩ = some (.int .i64 g)) (hBb : v.ownBlock ≠ some B) :
    Calls Tryd.prog 80 #[v, .func (.func 82) #[] #[.pointer (some ⟨B, 0, none⟩)]] w fun e w' => ∃ v', e = .returned v' ∧ EvsAt w' v' (l.filter (keepE g)) ∧ Frm (fun j => v.ownBlock = some j) w w' := by
  have hev := evs_of_row hown rfl
  have HI := Lib.hid (idx_any w v l hev hl B g hB)
  obtain ⟨n, hn⟩ : ∃ n, n = l.length := ⟨_, rfl⟩
  have HN := Lib.hid hn
  have HEV := Lib.hid hev
  have HOWN := Lib.hid hown
  have HBB := Lib.hid hBb
  have HB := Lib.hid hB
  obtain ⟨a, c, rfl⟩ := row_form hown
  rw [← hn] at hl HI HEV HOWN HBB ⊢
  clear hn hev hown hBb hB
  go_enter Tryd.func80, Tryd.ntmps80
  go_wp2_with fail
  refine HI.out.mono ?_
  rintro e w1 ⟨⟨r, rfl, hr⟩, hb1⟩
  have HR := Lib.hid hr
  have HB1 := Lib.hid hb1
  rename_i K1 K2 hK2
  refine hK2 _ _ ?_
  clear hK2 hr hb1
  rcases HR.out with ⟨hr1, hall⟩ | ⟨k, hk, hr1, hbad, hall⟩
  · have HALL := Lib.hid hall
    subst hr1
    clear hall HR
    go_wp2_with fail
    go_ret
    refine ⟨_, rfl, ?_, ⟨HB1.out.os, HB1.out.tape, HB1.out.output, HB1.out.size, fun q hq _ => HB1.out.block q hq⟩⟩
    have hf : l.filter (keepE g) = l := by
      have := filter_all g l l.length (Nat.le_refl _) (fun t ht => HALL.out t (by have := HN.out; omega))
      simpa using this
    rw [hf]
    exact HEV.out.below HB1.out (Nat.le_refl _)
  · have HK := Lib.hid hk
    have HBAD := Lib.hid hbad
    have HALL := Lib.hid hall
    subst hr1
    clear hk hbad hall HR
    obtain ⟨b, c', hv, _, _⟩ := HOWN.out.form (by have := HK.out; have := HN.out; omega)
    simp only [Value.slice.injEq] at hv
    obtain ⟨rfl, _, rfl⟩ := hv
    have hkn : k < n := by have := HK.out; have := HN.out; omega
    have hne1 : ((k : Int) == -1) = false := beq_eq_false_iff_ne.2 (by omega)
    have hROW : Hid (RowE w1 b l) := Lib.hid (fun t ht => by
      obtain ⟨a', c', q1, q2⟩ := HEV.out
      obtain ⟨b', o', q3, q4⟩ := q2 (by omega)
      simp only [Value.slice.injEq] at q1
      obtain ⟨rfl, _, _⟩ := q1
      simp only [Option.some.injEq, Addr.mk.injEq] at q3
      obtain ⟨rfl, rfl, _⟩ := q3
      have := (q4 t ht).below HB1.out (Nat.le_refl _)
      rwa [Nat.zero_add] at this)
    have hUNF : Hid (Unfz w1 b (n * 5)) := Lib.hid (fun t ht => by
      obtain ⟨cur, q1, _⟩ := row_block HOWN.out (g := b) rfl
      exact Lib.frozen_of_heap ((HB1.out.block b (lt_of_own HOWN.out rfl)).trans q1) t)
    have hbB : b ≠ B := fun e => HBB.out (by rw [e]; rfl)
    have HBNE := Lib.hid hbB
    clear hbB
    go_wp2_with fail
    go_loopw [5, 6, 7] (fun s5 s6 _ wr => ∃ (i j : Nat) (M : List Ev), s5 = .int .i64 i ∧ s6 = .int .i64 j ∧ j ≤ n ∧ Hid (DelSt g l M i j) ∧ Hid (RowE wr b M) ∧ Hid (Unfz wr b (n * 5)) ∧ Hid (Frm (fun q => q = b) w wr)) (fun _ s6 _ _ => n - (intOf s6).toNat)
    case atStart => exact ⟨k, k + 1, l, rfl, by go_num, by omega, Lib.hid (DelSt.start (by have := HN.out; omega) HBAD.out HALL.out), hROW, hUNF, Lib.hid ⟨HB1.out.os, HB1.out.tape, HB1.out.output, HB1.out.size, fun q hq _ => HB1.out.block q hq⟩⟩
    case round =>
      obtain ⟨i, j, M, rfl, rfl, hj, hst, hrow, hunf, hF⟩ := hrel
      have hij : i < j := hst.out.lt
      have hMl : M.length = n := hst.out.len.trans HN.out.symm
      by_cases hlt : j < n
      · have d1 := hrow.out j (by omega)
        have hjl : j < l.length := by have := HN.out; omega
        have hi1 := hst.out.high j (Nat.le_refl _) hjl
        obtain ⟨x, hx0⟩ : ∃ x, x = l.getD j default := ⟨_, rfl⟩
        rw [hi1, ← hx0] at d1
        have HX := Lib.hid hx0
        clear hx0 hi1
        have oi := hrow.out i (by omega)
        have u0 := hunf.out (i * 5) (by omega)
        have u1 := hunf.out (i * 5 + 1) (by omega)
        have u2 := hunf.out (i * 5 + 2) (by omega)
        have u3 := hunf.out (i * 5 + 3) (by omega)
        have u4 := hunf.out (i * 5 + 4) (by omega)
        have hcB : wr.cell? ⟨B, 0, none⟩ = some (.int .i64 g) := hF.out.cell HB.out (fun e => HBNE.out e.symm)
        obtain ⟨x1, x2, x3, x4, x5⟩ := x
        obtain ⟨wa, ha⟩ : ∃ wa, wa = (wr.alloc (Obj.cells #[Value.int .i64 x1, .int .i64 x2, .int .i64 x3, .int .i64 x4, .int .i64 x5] 38)) := ⟨_, rfl⟩
        have hba : Below wr.heap.size wr wa := by rw [ha]; exact (Below.refl _ _).alloc (Nat.le_refl _) _
        have hC := Lib.hid (ofC_any wa ⟨x1, x2, x3, x4, x5⟩ B g (below_cell hba (Nat.le_refl _) hcB))
        have e0 : wa.cell? ⟨wr.heap.size, 0, none⟩ = some (.int .i64 x1) := by rw [ha]; simp
        have e1 : wa.cell? ⟨wr.heap.size, 1, none⟩ = some (.int .i64 x2) := by rw [ha]; simp
        have e2 : wa.cell? ⟨wr.heap.size, 2, none⟩ = some (.int .i64 x3) := by rw [ha]; simp
        have e3 : wa.cell? ⟨wr.heap.size, 3, none⟩ = some (.int .i64 x4) := by rw [ha]; simp
        have e4 : wa.cell? ⟨wr.heap.size, 4, none⟩ = some (.int .i64 x5) := by rw [ha]; simp
        have HA := Lib.hid ha
        have HBA := Lib.hid hba
        obtain ⟨p0, p1, p2, p3, p4⟩ := d1
        have k0 : (0 : Int) ≤ (j : Int) := by omega
        have k1 : (j : Int) < (n : Int) := by omega
        have k2 : (0 : Int) ≤ (i : Int) := by omega
        have k3 : (i : Int) < (n : Int) := by omega
        clear ha hba hcB
        go_wp2_with fail
        rw [← HA.out]
        refine hC.out.mono ?_
        rintro e w2 ⟨rfl, hb2⟩
        have hbw : Below wr.heap.size wr w2 := HBA.out.trans (hb2.mono HBA.out.size)
        have E0 := below_cell hb2 (Nat.le_refl _) e0
        have E1 := below_cell hb2 (Nat.le_refl _) e1
        have E2 := below_cell hb2 (Nat.le_refl _) e2
        have E3 := below_cell hb2 (Nat.le_refl _) e3
        have E4 := below_cell hb2 (Nat.le_refl _) e4
        have hblt : b < wr.heap.size := block_lt_of_cell oi.c0
        have hrow2 := Lib.hid (rowE_below hrow.out hbw (Nat.le_refl _))
        have hunf2 := Lib.hid (unfz_below hunf.out hbw hblt)
        have hF2 : Hid (Frm (fun q => q = b) w w2) := Lib.hid (hF.out.trans (⟨hbw.os, hbw.tape, hbw.output, hbw.size, fun q hq _ => hbw.block q hq⟩ : Frm (fun q => q = b) wr w2) (fun _ _ h => h))
        obtain ⟨o0, o1, o2, o3, o4⟩ := hrow2.out i (by omega)
        have U0 := hunf2.out (i * 5) (by omega)
        have U1 := hunf2.out (i * 5 + 1) (by omega)
        have U2 := hunf2.out (i * 5 + 2) (by omega)
        have U3 := hunf2.out (i * 5 + 3) (by omega)
        have U4 := hunf2.out (i * 5 + 4) (by omega)
        clear hb2 hbw e0 e1 e2 e3 e4 p0 p1 p2 p3 p4 u0 u1 u2 u3 u4 oi hrow hunf hF
        rename_i K3 K4 hK4
        refine hK4 _ _ ?_
        clear hK4
        obtain ⟨r, hr⟩ : ∃ r, keepE g ⟨x1, x2, x3, x4, x5⟩ = r := ⟨_, rfl⟩
        rw [hr]
        have HR := Lib.hid hr
        clear hr
        cases r
        · simp only [Bool.not_false]
          go_wp2_with fail
          go_roundw
          case rel => exact ⟨i, j + 1, M, rfl, by go_num, by omega, Lib.hid (hst.out.skip hjl (by rw [← HX.out]; exact HR.out)), hrow2, hunf2, hF2⟩
          case measure => simp [intOf]; omega
        · simp only [Bool.not_true]
          go_wp2_with fail
          go_roundw
          case rel => exact ⟨i + 1, j + 1, M.set i ⟨x1, x2, x3, x4, x5⟩, by go_num, by go_num, by omega, Lib.hid (by have := hst.out.keep hjl (by rw [← HX.out]; exact HR.out); rw [← HX.out] at this; exact this), Lib.hid (rowE_set hrow2.out (by omega) ⟨x1, x2, x3, x4, x5⟩), Lib.hid (unfz_set hunf2.out (i * 5) (evC ⟨x1, x2, x3, x4, x5⟩)), Lib.hid (frm_set hF2.out (i * 5) (evC ⟨x1, x2, x3, x4, x5⟩))⟩
          case measure => simp [intOf]; omega
      · have e : j = n := by omega
        have hin : i < n := by omega
        have HE := Lib.hid e
        have k2 : (0 : Int) ≤ (i : Int) := by omega
        have k3 : (i : Int) < (n : Int) := by omega
        have hnc : n ≤ c := (row_len HOWN.out).2.1
        have k4 : (n : Int) ≤ (c : Int) := by omega
        have hcl : ∀ ty, (Builtin.clear_ #[22] ty #[.slice (some ⟨b, i * 5, none⟩) (n - i) (c - i)]).run Tryd.prog wr = .ok (.tuple #[]) (wr.setCells b (i * 5) (List.replicate ((n - i) * 5) (.int .i64 0))) := fun ty => run_clear_ev wr ty b (i * 5) (n - i) (c - i) (by omega) (fun t ht => by
          have hd : i * 5 + t = (i + t / 5) * 5 + t % 5 := by omega
          rw [hd, (hrow.out (i + t / 5) (by omega)).cellN (t % 5) (by omega)]
          simp [evC]; omega) (fun t ht => hunf.out (i * 5 + t) (by omega))
        clear e
        go_wp2_with fail
        go_ret
        have hlow := hst.out.low
        rw [HE.out, HN.out, List.take_length] at hlow
        have hfl : (l.filter (keepE g)).length = i := by rw [← hlow, List.length_take]; omega
        refine ⟨_, rfl, ⟨some ⟨b, 0, none⟩, c, by rw [hfl]; rfl, fun _ => ⟨b, 0, rfl, fun t ht => ?_⟩⟩, (frm_set hF.out (i * 5) (List.replicate ((n - i) * 5) (.int .i64 0))).mono' (fun q hq => by rw [hq]; rfl)⟩
        rw [hfl] at ht
        have hg : (l.filter (keepE g)).getD t default = M.getD t default := by
          rw [← hlow]; simp only [List.getD_eq_getElem?_getD, List.getElem?_take, if_pos ht]
        rw [hg, Nat.zero_add]
        have one : ∀ r, r < 5 → (wr.setCells b (i * 5) (List.replicate ((n - i) * 5) (.int .i64 0))).cell? ⟨b, t * 5 + r, none⟩ = (evC (M.getD t default))[r]? := fun r hr => by
          rw [← (hrow.out t (by omega)).cellN r hr]
          exact World.cell?_setCells_out b _ _ _ _ (fun _ _ => by left; show t * 5 + r < i * 5; omega)
        exact ⟨one 0 (by decide), one 1 (by decide), one 2 (by decide), one 3 (by decide), one 4 (by decide)⟩
end Go.Proofs.YtfcoigcenheefaaDoor
