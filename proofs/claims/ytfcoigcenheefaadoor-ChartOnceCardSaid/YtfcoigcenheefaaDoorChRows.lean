import Derived.Test.YtfcoigcenheefaaDoorChChunk
import Derived.Test.YtfcoigcenheefaaDoorChRow
import Derived.Test.YtfcoigcenheefaaDoorChBad
import Derived.Test.YtfcoigcenheefaaDoorInvPh
import Derived.Test.YtfcoigcenheefaaDoorChPhase
import Derived.RangeFuncNested
import Derived.RangeFuncBound
import Derived.RangeFuncCalls
import Derived.RangeFuncLeaves
import Derived.Shelf.Abstract
import Derived.Shelf.RegionOpen
import Derived.WalkKit
import Derived.OwnWalkIn
import Derived.TacticsInMore
import Derived.LoopNIn
import Derived.LoopIn
import Derived.Test.YtfcoigcenheefaaDoorPut
import Derived.Laws.ResultCell
set_option linter.unusedVariables false
set_option linter.unusedSimpArgs false
namespace Go.Proofs.YtfcoigcenheefaaDoor
open Go.RowKit Go.Shelf
attribute [local go_sem] Oper.semAt_some
set_option maxRecDepth 100000 in
theorem chunk_any (w : World) (a : Option Addr) (n c : Nat) : Calls Tryd.prog 117 #[.slice a n c, .int .i64 200] w fun e w' => e = .returned (.func (.func 176) #[] #[.pointer (some ⟨w.heap.size, 0, none⟩), .pointer (some ⟨w.heap.size + 1, 0, none⟩)]) ∧ w' = (w.alloc (.cells #[.slice a n c] 22)).alloc (.cells #[.int .i64 200] 3) := by
  go_enter Tryd.func117, Tryd.ntmps117
  go_wp2_with fail
  go_ret
  exact ⟨rfl, rfl⟩
theorem res56 {tm : Array Value} {b : Nat} {v : Value} {w : World} (hp : tm.getD 6 undef = .pointer (some ⟨b, 0, none⟩)) (hc : w.cell? ⟨b, 0, none⟩ = some v) : (results Tryd.f56 tm).run Tryd.prog w = .ok (.tuple #[v, tm.getD 7 undef]) w := by
  have hsz : (sizeOf 79).run Tryd.prog w = .ok 1 w := by kernel_rfl
  rw [results_cell_tmp Tryd.results56, hp]
  simp [asAddr, loadVar, isAgg, run_underlying Tryd.underlying79, hc, go_sem]
theorem dec_len (k : Nat) (h : k ≤ 1000) : (Lib.decDigits k).length ≤ 30 := by
  have := itoa_len k (by omega) (by omega)
  rwa [itoa_nat] at this
theorem evs_cap {w : World} {a : Option Addr} {n c c' : Nat} {l : List Ev} (h : EvsAt w (.slice a n c) l) : EvsAt w (.slice a n c') l := by
  obtain ⟨a', c'', h1, h2⟩ := h
  simp only [Value.slice.injEq] at h1
  obtain ⟨rfl, rfl, _⟩ := h1
  exact ⟨_, _, rfl, h2⟩
theorem set_get_true {A : Array Bool} {n : Nat} (k : Nat) (h : A.size = n) (hk : k < n := by decide) : (A.setIfInBounds k true).getD k false = true := by
  rw [Array.getD_eq_getD_getElem?]; simp [h, hk]
def RowsRes (l : List Ev) (w : World) (e : Ending) (w' : World) : Prop :=
  (e = .returned (.tuple #[.slice none 0 0, .int .i64 1])) ∨
  ∃ (ss : List (List UInt8)) (v' : Value), e = .returned (.tuple #[v', .int .i64 0]) ∧ (∃ base, w'.ownsRow base 9 1 v' ss.length (ss.map strV)) ∧ ss.length ≤ 64 ∧ (∀ i, i < ss.length → RowOk l (i + 1) (ss.getD i [])) ∧ ∀ k, k < l.length → 1 ≤ (l.getD k default).g ∧ (l.getD k default).g ≤ ss.length
/-- Between the rounds of the range: the rows that there are. -/
def ChI (l : List Ev) (M OB : Nat) (w2 : World) (pre : List Unit) (W : World) : Prop :=
  ∃ (ss : List (List UInt8)) (v' : Value), W.heap[OB]? = some (.cells #[v'] 79 (0, 0)) ∧ W.ownsRow w2.heap.size 9 1 v' ss.length (ss.map strV) ∧ ss.length = (if pre = [] then 0 else M) ∧ (∀ i, i < ss.length → RowOk l (i + 1) (ss.getD i [])) ∧ Frm (fun q => q = OB) w2 W
theorem chI_own (l : List Ev) (M OB : Nat) (w2 : World) (hOB : OB < w2.heap.size) : OwnFrom w2.heap.size (ChI l M OB w2) := by
  rintro pre W W' row ⟨ss, v', h1, h2, h3, h4, h5⟩ hg hr
  have hF : Frm (fun q => row = some q) W W' := ⟨hg.os, hg.tape, hg.output, hg.size, fun k hk hs => hg.block k hk (fun e => hs e.symm)⟩
  refine ⟨ss, v', ?_, row_frm h2 hF (fun k hk e => ?_), h3, h4, h5.trans hF (fun i hi e => ?_)⟩
  · rw [hg.block OB (lt_of_block h1) (fun e => by have := (hr _ e.symm).1; omega)]; exact h1
  · obtain ⟨_, o, ho, hc⟩ := hr _ e
    obtain ⟨cur, q, _⟩ := row_block h2 hk
    rw [q] at ho
    simp at ho
    rw [← ho] at hc
    cases hc
  · have := (hr _ e).1; omega
set_option maxRecDepth 100000 in
set_option maxHeartbeats 4000000 in
theorem rows_any (w : World) (v0 v : Value) (p : List Fn) (l : List Ev) (rows : List RowD) (hp : ProgAt w v0 p) (hpl : p.length ≤ 1000) (hq : ∀ i, i < p.length → (p.getD i default).1.length ≤ 1000) (ht : RowTab w rows) (h : EvsAt w v l) (hl0 : 1 ≤ l.length) (hl : l.length ≤ 100) (hcp0 : ∀ a c, v = .slice a l.length c → l.length ≤ c ∧ c ≤ maxLen) :
    Calls Tryd.prog 56 #[.agg #[v0], v, .int .i64 200] w fun e w' => RowsRes l w e w' ∧ Below w.heap.size w w' := by
  have hwa : ∃ wa, wa = (w.alloc (Obj.cells #[v0] 44)).alloc (.cells #[.slice none 0 0] 79) := ⟨_, rfl⟩
  obtain ⟨wa, ha⟩ := hwa
  have hba : Below w.heap.size w wa := by rw [ha]; exact ((Below.refl _ _).alloc (Nat.le_refl _) _).alloc (by simp) _
  have hsz : wa.heap.size = w.heap.size + 2 := by rw [ha]; simp
  have cb : wa.cell? ⟨w.heap.size, 0, none⟩ = some v0 := by rw [ha]; exact Lib.cell?_alloc_some _ (by simp)
  have hbo : wa.heap[w.heap.size + 1]? = some (.cells #[.slice none 0 0] 79 (0, 0)) := by
    rw [ha]; have := heap_alloc_new (w.alloc (Obj.cells #[v0] 44)) (.cells #[.slice none 0 0] 79); simpa using this
  have hev := h
  obtain ⟨a, c, rfl, h2⟩ := h
  obtain ⟨n, hn⟩ : ∃ n, n = l.length := ⟨_, rfl⟩
  have HN := Lib.hid hn
  have HL := Lib.hid hl
  have HL0 := Lib.hid hl0
  have HA := Lib.hid ha
  have HBA := Lib.hid hba
  have HSZ := Lib.hid hsz
  have HCB := Lib.hid cb
  have HBO := Lib.hid hbo
  have HEV := Lib.hid hev
  have H2 := Lib.hid h2
  have HP := Lib.hid hp
  have HPL := Lib.hid hpl
  have HQ := Lib.hid hq
  have HT := Lib.hid ht
  have hcp := Lib.hid (hcp0 a c rfl)
  rw [← hn] at HEV hcp ⊢
  clear hcp0
  have hl0' : 1 ≤ n := by omega
  have hl' : n ≤ 100 := by omega
  obtain ⟨a0, k0, hv0, _⟩ := hp
  generalize hpll : p.length = pl at hv0
  clear ha hba hsz cb hbo hev h2 hpl hq ht hpll hn hl hl0
  subst hv0
  refine callsIn_wide.1 (callsIn_of_wp_marks (F := Fence.wide) (n := 3) Tryd.func56 rfl trivial ?_ rfl)
  refine wpIn_wide.2 ?_
  simp only [Tryd.ntmps56, List.size_toArray, List.length_cons, List.length_nil, Nat.reduceAdd, Nat.reduceSub, Array.replicate_succ, Array.replicate_zero, List.push_toArray, List.append_toArray, List.nil_append, List.cons_append]
  go_upto_region 1 with fail
  rw [← HA.out]
  go_wp2_with fail
  refine (contains_any wa _ l (HEV.out.below HBA.out (Nat.le_refl _)) (by have := HL.out; omega)).mono ?_
  rintro e w1 ⟨⟨b, rfl, hb⟩, hb1⟩
  have HB1 := Lib.hid (HBA.out.trans (hb1.mono HBA.out.size))
  have hs1 := hb1.size
  have HBK := Lib.hid ((hb1.block _ (by have := HSZ.out; omega)).trans HBO.out)
  have HC1 := Lib.hid (below_cell hb1 (Nat.le_refl _) HCB.out)
  rename_i K1 K2 hK2
  refine hK2 _ _ ?_
  clear hK2 hb1
  cases b
  · have HOK := Lib.hid (hb rfl)
    clear hb
    go_wp2_with fail
    go_loopw [11, 27] (fun s11 s27 wr => ∃ k m : Nat, k ≤ n ∧ s27 = .int .i64 k ∧ m ≤ 64 ∧ wr.heap[w1.heap.size]? = some (.cells #[.int .i64 m] 3 (0, 0)) ∧ Hid (∀ t, t < k → (l.getD t default).g ≤ m) ∧ Hid (Below w1.heap.size w1 wr)) (fun _ s27 _ => n - (intOf s27).toNat)
    case atStart => exact ⟨0, 0, Nat.zero_le _, rfl, by omega, heap_alloc_new _ _, Lib.hid (fun t ht => by omega), Lib.hid ((Below.refl _ _).alloc (Nat.le_refl _) _)⟩
    case round =>
      obtain ⟨k, m, hk, rfl, hm, hbm, hall, hb⟩ := hrel
      have hz1 := hb.out.size
      have hltm := lt_of_block hbm
      by_cases hlt : k < n
      · have hkl : k < l.length := by have := HN.out; omega
        obtain ⟨b1, o1, rfl, q1⟩ := H2.out (by have := HL0.out; omega)
        have hbw : Below w.heap.size w wr := HB1.out.trans (hb.out.mono HB1.out.size)
        have d1 := (q1 k hkl).below hbw (Nat.le_refl _)
        have hok := HOK.out k hkl
        clear q1
        obtain ⟨x, hx0⟩ : ∃ x, x = l.getD k default := ⟨_, rfl⟩
        rw [← hx0] at d1 hok
        have HX := Lib.hid hx0
        clear hx0
        obtain ⟨x1, x2, x3, x4, x5⟩ := x
        obtain ⟨p0, p1, p2, p3, p4⟩ := d1
        have kk0 : (0 : Int) ≤ (k : Int) := by omega
        have kk1 : (k : Int) < (n : Int) := by omega
        simp only [okE, Bool.and_eq_true, decide_eq_true_eq] at hok
        obtain ⟨G, rfl⟩ : ∃ G : Nat, x2 = G := ⟨x2.toNat, by omega⟩
        obtain ⟨wc, hc⟩ : ∃ wc, wc = (wr.alloc (Obj.cells #[Value.int .i64 x1, .int .i64 G, .int .i64 x3, .int .i64 x4, .int .i64 x5] 38)) := ⟨_, rfl⟩
        have hbc : Below w1.heap.size w1 wc := by rw [hc]; exact hb.out.alloc hz1 _
        have hbmc : wc.heap[w1.heap.size]? = some (.cells #[.int .i64 m] 3 (0, 0)) := by rw [hc]; exact (Go.heap_alloc_old _ _ _ hltm).trans hbm
        have m0 : wc.cell? ⟨w1.heap.size, 0, none⟩ = some (.int .i64 m) := (Lib.cell_of_heap hbmc _).trans rfl
        have mf : wc.frozen? ⟨w1.heap.size, 0, none⟩ = false := Lib.frozen_of_heap hbmc 0
        have e1 : wc.cell? ⟨wr.heap.size, 1, none⟩ = some (.int .i64 G) := by rw [hc]; simp
        have HC := Lib.hid hc
        have HBC := Lib.hid hbc
        have HBMC := Lib.hid hbmc
        have hmx : max (m : Int) (G : Int) = ((max m G : Nat) : Int) := by omega
        clear hc hbc hbmc hbw
        go_upto_region 8 with fail
        rw [← HC.out]
        go_wp2_with fail
        go_roundw
        case rel =>
          refine ⟨k + 1, max m G, by omega, by go_num, by omega, ?_, Lib.hid (fun t ht => ?_), Lib.hid (HBC.out.setCell (p := ⟨w1.heap.size, 0, none⟩) (Nat.le_refl _) _)⟩
          · rw [heap_setCell_same _ w1.heap.size 0 _ _ _ HBMC.out]; simp
          · by_cases e : t = k
            · subst e; rw [← HX.out]; simp; omega
            · have := hall.out t (by omega); omega
        case measure => simp [intOf]; omega
      · have e : k = n := by omega
        have HE := Lib.hid e
        have HBM := Lib.hid hbm
        clear e
        obtain ⟨w2, h2w⟩ : ∃ w2, w2 = (wr.alloc (.cells #[.slice a n c] 22)).alloc (.cells #[.int .i64 200] 3) := ⟨_, rfl⟩
        have hF2 : Frm (fun _ => False) wr w2 := by rw [h2w]; exact ((Frm.refl _ _).alloc _).alloc _
        have hs2 : w2.heap.size = wr.heap.size + 2 := by rw [h2w]; simp
        have cs2 : w2.cell? ⟨wr.heap.size, 0, none⟩ = some (.slice a n c) := by rw [h2w]; exact Lib.cell?_alloc_some _ (by simp)
        have cn2 : w2.cell? ⟨wr.heap.size + 1, 0, none⟩ = some (.int .i64 200) := by rw [h2w]; simp
        have hb2 : Below w1.heap.size w1 w2 := hb.out.trans (Frm.below (B := w1.heap.size) hF2 (by omega) (fun q h => h.elim))
        have H2W := Lib.hid h2w
        have HF2 := Lib.hid hF2
        have HS2 := Lib.hid hs2
        have CS2 := Lib.hid cs2
        have CN2 := Lib.hid cn2
        have HB2 := Lib.hid hb2
        have HBM2 := Lib.hid ((hF2.block _ (by omega) (fun h => h)).trans HBM.out)
        have HBK2 := Lib.hid ((hb2.block _ (lt_of_block HBK.out)).trans HBK.out)
        clear h2w hF2 hs2 cs2 cn2 hb2
        go_wp2_with fail
        refine (chunk_any wr a n c).mono ?_
        rintro e wx ⟨rfl, hwx⟩
        rw [← H2W.out] at hwx
        subst hwx
        rename_i K3 K4 hK4
        refine hK4 _ _ ?_
        clear hK4
        go_wp2_with fail
        obtain ⟨BS, hBS⟩ : ∃ BS, wr.heap.size = BS := ⟨_, rfl⟩
        rw [hBS] at HS2 CS2 CN2 ⊢
        have hBS1 : w1.heap.size ≤ BS := by rw [← hBS]; exact hz1
        have HALL := Lib.hid (fun t (ht : t < l.length) => hall.out t (by have := HE.out; have := HN.out; omega))
        obtain ⟨b1, o1, rfl, _⟩ := H2.out (by have := HL0.out; omega)
        generalize k = kz at *
        generalize hv8 : Value.func (Fn.func 115) #[] #[] = fv8
        clear hv8
        have hcap : n ≤ c ∧ c ≤ maxLen := hcp.out
        have hOB : w.heap.size + 1 < wx.heap.size := lt_of_block HBK2.out
        refine (wpIn_wide (n := 3)).1 ?_
        refine wpIn_rangeFunc_ownF (F := Fence.wide) (n := 3) (α := Unit) rfl (by decide) (gf := 176) (lb := #[.pointer (some ⟨BS, 0, none⟩), .pointer (some ⟨BS + 1, 0, none⟩)]) rfl trivial (enters_of Tryd.func176 (by kernel_rfl) rfl)
          (encs := fun _ => #[.slice (some ⟨b1, o1, none⟩) n n]) (Kp := fun W W' => W'.heap[BS]? = W.heap[BS]? ∧ W'.heap[BS + 1]? = W.heap[BS + 1]?) (S := fun xs => xs = [()]) (Sp := fun pre => pre <+: [()]) (N := 1) (w0 := wx) ?seq
          (fun h k => ⟨k.1.trans h.1, k.2.trans h.2⟩) (fun W l o o' hl h _ _ => ⟨World.putObj_heap_other (by have := HS2.out; omega), World.putObj_heap_other (by have := HS2.out; omega)⟩) (Below.refl _ _) (fun _ => rfl)
          (ChI l m (w.heap.size + 1) wx) (fun _ _ _ => False) (chI_own l m _ wx hOB) (fun _ _ _ _ _ hs _ _ => hs) ?start ?a1 ?assign ?body ?done ?stop
        case seq =>
          intro lp J Jx W hW hJ hJx hY h0
          exact chunk1_in Fence.wide 2 trivial rfl (by decide) lp BS (BS + 1) b1 o1 n c hl0' hl' hcap.1 hcap.2 J Jx hY W (fun pre W' hj => hJ pre W' W'.drew none hj ⟨rfl, rfl, rfl, Nat.le_refl _, fun _ _ _ => rfl⟩ (fun r e => by cases e)) (below_cell hW (Nat.le_refl _) CS2.out) (below_cell hW (Nat.le_refl _) CN2.out) h0
        case start => exact ⟨[], _, HBK2.out, ⟨rfl, .inl ⟨rfl, rfl⟩⟩, rfl, fun i hi => by simp at hi, Frm.refl _ _⟩
        case assign =>
          intro lp x W K hK
          gi_wp2
          exact hK
        case stop => exact fun _ _ _ _ _ _ h _ => h.elim
        case body =>
          rintro lp pre x W ⟨ss0, v0', h1, h2, h3, h4, h5⟩ hlen
          obtain rfl : pre = [] := by cases pre with
            | nil => rfl
            | cons _ _ => simp at hlen
          obtain rfl : ss0 = [] := List.eq_nil_of_length_eq_zero (by simpa using h3)
          obtain ⟨i0, hi, hz0, hz1, hz2⟩ := info_parts info9
          have hw1w : w.heap.size + 2 ≤ w1.heap.size := by have := HSZ.out; omega
          have hw1x : w1.heap.size < wx.heap.size := lt_of_block HBM2.out
          have cm : W.cell? ⟨w1.heap.size, 0, none⟩ = some (.int .i64 m) := (Lib.cell_of_heap ((h5.block _ hw1x (by omega)).trans HBM2.out) _).trans rfl
          have HEVn : Hid (EvsAt w (.slice (some ⟨b1, o1, none⟩) n n) l) := Lib.hid (evs_cap HEV.out)
          have H1 := Lib.hid h1
          have H2' := Lib.hid h2
          have H5 := Lib.hid h5
          have HWX : Hid (Below w.heap.size w wx) := Lib.hid (HB1.out.trans (HB2.out.mono HB1.out.size))
          have HCX : Hid (wx.cell? ⟨w.heap.size, 0, none⟩ = some (.slice a0 pl k0)) := Lib.hid (below_cell HB2.out (Nat.le_refl _) HC1.out)
          clear h1 h2 h3 h4 h5 hlen
          gi_wp2
          generalize hv38 : Value.func (Fn.func 176) #[] #[.pointer (some ⟨BS, 0, none⟩), .pointer (some ⟨BS + 1, 0, none⟩)] = fv38
          clear hv38
          gi_loopw [13, 41] (fun _ s41 wq => ∃ (k : Nat) (ss : List (List UInt8)) (v' : Value), k ≤ m ∧ s41 = .int .i64 k ∧ ss.length = k ∧ wq.heap[w.heap.size + 1]? = some (.cells #[v'] 79 (0, 0)) ∧ wq.ownsRow wx.heap.size 9 1 v' k (ss.map strV) ∧ Hid (∀ i, i < k → RowOk l (i + 1) (ss.getD i [])) ∧ Hid (Frm (fun q => q = w.heap.size + 1) wx wq) ∧ Hid (KeepsOthers W wq)) (fun _ s41 _ => m - (intOf s41).toNat)
          case atStart => exact ⟨0, [], v0', Nat.zero_le _, rfl, rfl, H1.out, H2'.out, Lib.hid (fun i hi => by omega), H5, Lib.hid (KeepsOthers.refl _)⟩
          case round =>
            obtain ⟨k, ss, v', hk, rfl, hsl, hob, hown, hrk, hF, hKO⟩ := hrel
            by_cases hlt : k < m
            · have kk1 : (k : Int) < (m : Int) := by omega
              have kk0 : (0 : Int) ≤ (k : Int) := by omega
              have kk2 : (k : Int) ≤ 64 := by omega
              have hFx := hF.out.size
              have HOBq : Hid (wr.drew.heap[w.heap.size + 1]? = some (.cells #[v'] 79 (0, 0))) := Lib.hid hob
              have HOWQ : Hid (wr.drew.ownsRow wx.heap.size 9 1 v' k (ss.map strV)) := Lib.hid hown.drew
              have hdz : wr.drew.heap.size = wr.heap.size := rfl
              have hOBq : w.heap.size + 1 < wr.drew.heap.size := lt_of_block hob
              have hBq : w.heap.size ≤ wr.drew.heap.size := by omega
              have hvq2 : ∀ q, v'.ownBlock = some q → q < wr.drew.heap.size := fun q h => lt_of_own hown.drew h
              have hvq0 : ∀ q, v'.ownBlock = some q → wx.heap.size ≤ q := fun q h => by obtain ⟨_, _, z⟩ := row_block hown h; exact z
              have hvq : ∀ q, v'.ownBlock = some q → w.heap.size ≤ q := fun q h => by have := hvq0 q h; omega
              have HBQ : Hid (Below w.heap.size w wr.drew) := Lib.hid ((HWX.out.trans (Frm.below (B := w.heap.size) hF.out (by omega) (fun q h => by omega))).trans (below_drewN w.heap.size wr 1))
              have HC3 : Hid (wr.drew.cell? ⟨w.heap.size, 0, none⟩ = some (.slice a0 pl k0)) := Lib.hid (hF.out.cell HCX.out (by simp))
              have HKOQ := hKO
              clear hob hown
              gi_wp2
              refine wpIn_region_inv2 (by kernel_rfl) 59 rfl (by kernel_rfl) (by kernel_rfl) (TCh (w.heap.size + 1) v') (RCh l k (w.heap.size + 1) wx.heap.size wr.drew.heap.size (.slice a0 pl k0) (.slice (some ⟨b1, o1, none⟩) n n) v' ss) (TCh.start _ _ _ _) ?_ ?_
              · refine ⟨?_, ?_, ?_, ?_, ?_, ?_, ?_, ?_, ?_, ?_, ?_, ?_, ?_, ?_, trivial⟩
                · rintro listed ⟨t, ds⟩ w' hlz hlk hd hfr hT hlst hdep K hK
                  obtain rfl : ds = [] := hd
                  have hv := hfr 6 rfl
                  change t.getD 6 undef = .pointer (some ⟨w.heap.size + 1, 0, none⟩) at hv
                  have h12 : listed.getD 12 false = false := by
                    cases h : listed.getD 12 false with
                    | false => rfl
                    | true => exact absurd (hT.f2 h) (by rw [hlk]; simp)
                  have h13 : listed.getD 13 false = false := by
                    cases h : listed.getD 13 false with
                    | false => rfl
                    | true => exact absurd (hT.f1 h) (by rw [h12]; simp)
                  have c6 : w'.cell? ⟨w.heap.size + 1, 0, none⟩ = some v' := (Lib.cell_of_heap ((hT.ob h13).trans HOBq.out) _).trans rfl
                  go_simp
                  exact hK _ _ (hT.step (by decide) (by decide) hOBq (Below.refl _ _)) (fun _ _ _ h => h) rfl
                · rintro listed ⟨t, ds⟩ w' hlz hlk hd hfr hT hlst hdep K hK
                  obtain rfl : ds = [] := hd
                  have hv := hfr 13 rfl
                  change t.getD 13 undef = .int .i64 k at hv
                  go_simp
                  exact hK _ _ (hT.step (by decide) (by decide) hOBq (Below.refl _ _)) (fun _ _ _ h => h) rfl
                · rintro listed ⟨t, ds⟩ w' hlz hlk hd hfr hT hlst hdep K hK
                  obtain rfl : ds = [] := hd
                  have hv := hdep ⟨1, .data⟩ (by simp) rfl _ rfl
                  change t.getD 45 undef = .int .i64 k at hv
                  have hwp : IntKind.i64.wrap ((k : Int) + 1) = (k : Int) + 1 := by rw [IntKind.wrap_i64]; omega
                  go_simp
                  exact hK _ _ (hT.step (by decide) (by decide) hOBq (Below.refl _ _)) (fun _ _ _ h => h) rfl
                · rintro listed ⟨t, ds⟩ w' hlz hlk hd hfr hT hlst hdep K hK
                  obtain rfl : ds = [] := hd
                  have hv := hdep ⟨2, .data⟩ (by simp) rfl _ rfl
                  change t.getD 46 undef = .int .i64 ((k : Int) + 1) at hv
                  have HI := Tryd.strconv_Itoa_small (k + 1) (by omega) w'
                  rw [show ((k + 1 : Nat) : Int) = (k : Int) + 1 by omega] at HI
                  go_simp
                  refine HI.mono ?_
                  rintro e wz ⟨rfl, hwz⟩
                  subst hwz
                  exact hK _ _ (hT.step (by decide) (by decide) hOBq (Below.refl _ _)) (fun _ _ _ h => h) rfl
                · rintro listed ⟨t, ds⟩ w' hlz hlk hd hfr hT hlst hdep K hK
                  obtain rfl : ds = [] := hd
                  have hv := hdep ⟨3, .data⟩ (by simp) rfl _ rfl
                  change t.getD 47 undef = .string ⟨(Lib.decDigits (k + 1)).toArray⟩ at hv
                  have hl9 : ¬ (9223372036854775807 < (Lib.decDigits (k + 1)).length + 1) := by have := dec_len (k + 1) (by omega); omega
                  go_simp
                  refine hK _ _ (hT.step (by decide) (by decide) hOBq (Below.refl _ _)) (fun _ _ _ h => h) ?_
                  show Value.string _ = Value.string _
                  congr 1
                · rintro listed ⟨t, ds⟩ w' hlz hlk hd hfr hT hlst hdep K hK
                  obtain rfl : ds = [] := hd
                  have hv := hfr 3 rfl
                  change t.getD 3 undef = .pointer (some ⟨w.heap.size, 0, none⟩) at hv
                  have c3 : w'.cell? ⟨w.heap.size, 0, none⟩ = some (.slice a0 pl k0) := hT.frm.cell HC3.out (fun e => e.elim (by simp) (fun e => absurd (hvq _ e) (by have := hvq0 _ e; simp at this; omega)))
                  go_simp
                  exact hK _ _ (hT.step (by decide) (by decide) hOBq (Below.refl _ _)) (fun _ _ _ h => h) rfl
                · rintro listed ⟨t, ds⟩ w' hlz hlk hd hfr hT hlst hdep K hK
                  obtain rfl : ds = [] := hd
                  have hv := hfr 12 rfl
                  change t.getD 12 undef = .slice (some ⟨b1, o1, none⟩) n n at hv
                  go_simp
                  exact hK _ _ (hT.step (by decide) (by decide) hOBq (Below.refl _ _)) (fun _ _ _ h => h) rfl
                · rintro listed ⟨t, ds⟩ w' hlz hlk hd hfr hT hlst hdep K hK
                  obtain rfl : ds = [] := hd
                  have hv := hfr 13 rfl
                  change t.getD 13 undef = .int .i64 k at hv
                  go_simp
                  exact hK _ _ (hT.step (by decide) (by decide) hOBq (Below.refl _ _)) (fun _ _ _ h => h) rfl
                · rintro listed ⟨t, ds⟩ w' hlz hlk hd hfr hT hlst hdep K hK
                  obtain rfl : ds = [] := hd
                  have hv := hdep ⟨7, .data⟩ (by simp) rfl _ rfl
                  change t.getD 51 undef = .int .i64 k at hv
                  have hwp : IntKind.i64.wrap ((k : Int) + 1) = (k : Int) + 1 := by rw [IntKind.wrap_i64]; omega
                  go_simp
                  exact hK _ _ (hT.step (by decide) (by decide) hOBq (Below.refl _ _)) (fun _ _ _ h => h) rfl
                · rintro listed ⟨t, ds⟩ w' hlz hlk hd hfr hT hlst hdep K hK
                  obtain rfl : ds = [] := hd
                  have hv := hdep ⟨5, .data⟩ (by simp) rfl _ rfl
                  change t.getD 49 undef = .agg #[.slice a0 pl k0] at hv
                  have hv2 := hdep ⟨6, .data⟩ (by simp) rfl _ rfl
                  change t.getD 50 undef = .slice (some ⟨b1, o1, none⟩) n n at hv2
                  have hv3 := hdep ⟨8, .data⟩ (by simp) rfl _ rfl
                  change t.getD 52 undef = .int .i64 ((k : Int) + 1) at hv3
                  have hbw := (HBQ.out.trans (hT.below (B := w.heap.size) hBq (by omega) hvq))
                  have HRr := row_any w' (.slice a0 pl k0) (.slice (some ⟨b1, o1, none⟩) n n) p l ((k : Int) + 1) rows (HP.out.below hbw (Nat.le_refl _)) HPL.out HQ.out (HT.out.below hbw (Nat.le_refl _)) (HEVn.out.below hbw (Nat.le_refl _)) (by have := HL.out; omega)
                  go_simp
                  refine HRr.mono ?_
                  rintro e wz ⟨bs, rfl, hz1, hz2, hz3⟩
                  exact hK _ _ (hT.step (by decide) (by decide) hOBq hz3) (fun _ _ _ h => rch_stab hz3 _ _ h) ⟨bs, rfl, hz1, hz2⟩
                · rintro listed ⟨t, ds⟩ w' hlz hlk hd hfr hT hlst hdep K hK
                  obtain rfl : ds = [] := hd
                  have hv := hdep ⟨4, .data⟩ (by simp) rfl _ rfl
                  change t.getD 48 undef = .string ⟨(Lib.decDigits (k + 1) ++ [58]).toArray⟩ at hv
                  obtain ⟨bs, hv2, hz1, hz2⟩ := hdep ⟨9, .data⟩ (by simp) rfl _ rfl
                  change t.getD 53 undef = .string ⟨bs.toArray⟩ at hv2
                  generalize hA1 : Lib.decDigits (k + 1) ++ [58] = A1 at hv
                  have hl8 : A1.length ≤ 100 := by rw [← hA1]; have := dec_len (k + 1) (by omega); simp; omega
                  have hl9 : ¬ (9223372036854775807 < A1.length + bs.length) := by have := HL.out; omega
                  have HZ2 := Lib.hid hz2
                  have HZ1 := Lib.hid hz1
                  clear hz2 hz1
                  go_simp
                  refine hK _ _ (hT.step (by decide) (by decide) hOBq (Below.refl _ _)) (fun _ _ _ h => h) ⟨A1 ++ bs, ?_, bs, by rw [← hA1]; simp, HZ1.out, fun t ht => by rw [show ((k + 1 : Nat) : Int) = (k : Int) + 1 by omega]; exact HZ2.out t ht⟩
                  first | rfl | (show Value.string _ = Value.string _; congr 1; done) | (show Value.string _ = Value.string _; congr 1; apply ByteArray.ext; simp)
                · rintro listed ⟨t, ds⟩ w' hlz hlk hd hfr hT hlst hdep K hK
                  obtain rfl : ds = [] := hd
                  obtain ⟨sx, hv, hrk⟩ := hdep ⟨10, .data⟩ (by simp) rfl _ rfl
                  change t.getD 54 undef = .string ⟨sx.toArray⟩ at hv
                  have hv9 : t[54]?.getD undef = .string ⟨sx.toArray⟩ := by rw [← Array.getD_eq_getD_getElem?]; exact hv
                  have HRK := Lib.hid hrk
                  clear hrk
                  have hbz : Below w'.heap.size w' (w'.alloc (.cells #[.string ⟨sx.toArray⟩] 9)) := (Below.refl _ _).alloc (Nat.le_refl _) _
                  have HBZ := Lib.hid hbz
                  have hnew := Lib.hid (heap_alloc_new w' (.cells #[.string ⟨sx.toArray⟩] 9))
                  clear hbz
                  have hsz' := hT.frm.size
                  go_simp
                  exact hK _ _ (hT.step (by decide) (by decide) hOBq HBZ.out) (fun _ _ _ h => rch_stab HBZ.out _ _ h) ⟨w'.heap.size, sx, rfl, HRK.out, hsz', hnew.out⟩
                · rintro listed ⟨t, ds⟩ w' hlz hlk hd hfr hT hlst hdep K hK
                  obtain rfl : ds = [] := hd
                  have hv := hdep ⟨0, .data⟩ (by simp) rfl _ rfl
                  change t.getD 44 undef = v' at hv
                  obtain ⟨H, sx, hv2, hrk, hH0, hH⟩ := hdep ⟨11, .data⟩ (by simp) rfl _ rfl
                  change t.getD 55 undef = .slice (some ⟨H, 0, none⟩) 1 1 at hv2
                  have hbT := hT.bel hlk
                  have hrow := row_below HOWQ.out hbT (Nat.le_refl _)
                  refine step_append_lies w' rfl _ _ 79 rfl wx.heap.size 9 i0 (.string ⟨#[]⟩) 1 16 Tryd.underlying79 hi hz0 hz1 hz2 rfl (by decide) v' k (ss.map strV) hv hrow ⟨H, 0, none⟩ 1 1 [strV sx] hv2 rfl (fun j u hj => World.news_of_block hH j u (by simpa using hj)) (by simp [strV, Value.oneCell']) (by decide) (by unfold maxLen; omega) (by omega) (by have := hT.frm.size; omega) w'.heap.size rfl ?_
                  intro g cap' w'' hown3 hgr hat hlt3
                  have hgO : g ≠ w.heap.size + 1 := by
                    rcases hat with h | h
                    · have := hvq0 g h; omega
                    · have := hT.frm.size; omega
                  have h13 : listed.getD 13 false = false := by
                    cases h : listed.getD 13 false with
                    | false => rfl
                    | true => exact absurd (hT.f1 h) (by rw [hlk]; simp)
                  refine hK _ _ ⟨hT.ko.trans (KeepsOthers.of_grownBy hgr (fun j o hj ho => ?_)), hT.frm.trans (⟨hgr.os, hgr.tape, hgr.output, hgr.size, fun q hq hs => hgr.block q hq (fun e => hs (.inr e.symm))⟩ : Frm (fun q => q = w.heap.size + 1 ∨ v'.ownBlock = some q) w' w'') (fun _ _ h => h), ?_, ?_, ?_, ?_⟩ ?_ ⟨g, cap', sx, rfl, hrk, by rw [List.map_append]; exact hown3, hgO⟩
                  · obtain ⟨cur, q, _⟩ := row_block hrow hj
                    rw [q] at ho
                    cases ho
                    rfl
                  · exact fun h => absurd h (by rw [set_get_true 12 hlz]; simp)
                  · rw [getD_set_ne false (by decide)]; exact fun h => (hgr.block _ (by have := hT.frm.size; omega) (fun e => by have := hvq0 _ e.symm; omega)).trans (hT.ob h)
                  · exact fun _ => set_get_true 12 hlz
                  · exact fun _ => getD_set_mono (hlst ⟨0, .data⟩ (by simp) rfl)
                  · intro j u hj hR
                    rcases j with _ | _ | _ | _ | _ | _ | _ | _ | _ | _ | _ | _ | _ | _ | j
                    all_goals first | exact hR | skip
                    · obtain ⟨H', s', q1, q2, q3, q4⟩ := hR
                      exact ⟨H', s', q1, q2, q3, (hgr.block H' (lt_of_block q4) (fun e => by have := hvq2 _ e.symm; omega)).trans q4⟩
                    · rw [hlk] at hj; cases hj
                    · rw [h13] at hj; cases hj
                · rintro listed ⟨t, ds⟩ w' hlz hlk hd hfr hT hlst hdep K hK
                  obtain rfl : ds = [] := hd
                  obtain ⟨g, cap', sx, hv, hrk, hrow, hgO⟩ := hdep ⟨12, .data⟩ (by simp) rfl _ rfl
                  change t.getD 56 undef = .slice (some ⟨g, 0, none⟩) (k + 1) cap' at hv
                  change w'.ownsRow wx.heap.size 9 1 (t.getD 56 undef) (k + 1) ((ss ++ [sx]).map strV) at hrow
                  rw [hv] at hrow
                  have hv6 := hfr 6 rfl
                  change t.getD 6 undef = .pointer (some ⟨w.heap.size + 1, 0, none⟩) at hv6
                  have hob := (hT.ob hlk).trans HOBq.out
                  have c6 : w'.cell? ⟨w.heap.size + 1, 0, none⟩ = some v' := (Lib.cell_of_heap hob _).trans rfl
                  have f6 : w'.frozen? ⟨w.heap.size + 1, 0, none⟩ = false := Lib.frozen_of_heap hob 0
                  have h12 := hlst ⟨12, .data⟩ (by simp) rfl
                  have HROW := Lib.hid hrow
                  have HOBZ := Lib.hid hob
                  have HRK := Lib.hid hrk
                  clear hrow hob hrk
                  go_simp
                  have hstore : (w'.setCell ⟨w.heap.size + 1, 0, none⟩ (.slice (some ⟨g, 0, none⟩) (k + 1) cap')).heap[w.heap.size + 1]? = some (.cells #[.slice (some ⟨g, 0, none⟩) (k + 1) cap'] 79 (0, 0)) := by rw [heap_setCell_same _ _ 0 _ _ _ HOBZ.out]; rfl
                  have hrow2 := ownsRow_setCell_other HROW.out (a := ⟨w.heap.size + 1, 0, none⟩) (by simp [Value.ownBlock]; exact hgO) (.slice (some ⟨g, 0, none⟩) (k + 1) cap')
                  refine hK undef _ ⟨hT.ko.trans (KeepsOthers.setCell _ _ _), hT.frm.setCell (p := ⟨w.heap.size + 1, 0, none⟩) (.inr (.inl rfl)) _, ?_, ?_, ?_, ?_⟩ ?_ ⟨_, sx, HRK.out, hstore, hrow2⟩
                  · rw [getD_set_ne false (by decide)]; exact fun h => absurd h (by rw [h12]; simp)
                  · exact fun h => absurd h (by rw [set_get_true 13 hlz]; simp)
                  · exact fun _ => getD_set_mono h12
                  · exact fun h => getD_set_mono (hT.f2 h12)
                  · intro j u hj hR
                    rcases j with _ | _ | _ | _ | _ | _ | _ | _ | _ | _ | _ | _ | _ | _ | j
                    all_goals first | exact hR | skip
                    · obtain ⟨H', s', q1, q2, q3, q4⟩ := hR
                      exact ⟨H', s', q1, q2, q3, (heap_setCell_other _ _ _ _ (by simp; omega)).trans q4⟩
                    · obtain ⟨g', cp, s', q1, q2, q3, q4⟩ := hR
                      exact ⟨g', cp, s', q1, q2, ownsRow_setCell_other q3 (a := ⟨w.heap.size + 1, 0, none⟩) (by rw [q1]; simp [Value.ownBlock]; exact q4) _, q4⟩
                    · rw [hlk] at hj; cases hj
              · rename_i Kc hKc
                rintro ⟨t, ds⟩ w' hd hsz hfr hTL hall
                obtain ⟨listed, hlall, hTT⟩ := hTL
                refine hKc _ _ ?_
                clear hKc Kc
                obtain rfl : ds = [] := hd
                have ht := tmps_lit t 59 hsz
                have f0 : t.getD 0 undef = .agg #[.slice a0 pl k0] := hfr 0 rfl
                have f1 : t.getD 1 undef = .slice (some ⟨b1, o1, none⟩) n c := hfr 1 rfl
                have f2 : t.getD 2 undef = .int .i64 200 := hfr 2 rfl
                have f3 : t.getD 3 undef = .pointer (some ⟨w.heap.size, 0, none⟩) := hfr 3 rfl
                have f4 : t.getD 4 undef = undef := hfr 4 rfl
                have f5 : t.getD 5 undef = undef := hfr 5 rfl
                have f6 : t.getD 6 undef = .pointer (some ⟨w.heap.size + 1, 0, none⟩) := hfr 6 rfl
                have f7 : t.getD 7 undef = .int .i64 0 := hfr 7 rfl
                have f8 : t.getD 8 undef = fv8 := hfr 8 rfl
                have f9 : t.getD 9 undef = .pointer (some ⟨w1.heap.size, 0, none⟩) := hfr 9 rfl
                have f10 : t.getD 10 undef = undef := hfr 10 rfl
                have f11 : t.getD 11 undef = u11 := hfr 11 rfl
                have f12 : t.getD 12 undef = .slice (some ⟨b1, o1, none⟩) n n := hfr 12 rfl
                have f13 : t.getD 13 undef = .int .i64 k := hfr 13 rfl
                have f14 : t.getD 14 undef = .int .i64 200 := hfr 14 rfl
                have f15 : t.getD 15 undef = .bool false := hfr 15 rfl
                have f16 : t.getD 16 undef = .bool false := hfr 16 rfl
                have f17 : t.getD 17 undef = .int .i64 200 := hfr 17 rfl
                have f18 : t.getD 18 undef = .bool false := hfr 18 rfl
                have f19 : t.getD 19 undef = .bool false := hfr 19 rfl
                have f20 : t.getD 20 undef = .bool false := hfr 20 rfl
                have f21 : t.getD 21 undef = .slice (some ⟨b1, o1, none⟩) n c := hfr 21 rfl
                have f22 : t.getD 22 undef = fv8 := hfr 22 rfl
                have f23 : t.getD 23 undef = .bool false := hfr 23 rfl
                have f24 : t.getD 24 undef = .bool false := hfr 24 rfl
                have f25 : t.getD 25 undef = .slice (some ⟨b1, o1, none⟩) n c := hfr 25 rfl
                have f26 : t.getD 26 undef = .int .i64 n := hfr 26 rfl
                have f27 : t.getD 27 undef = .int .i64 kz := hfr 27 rfl
                have f28 : t.getD 28 undef = .bool false := hfr 28 rfl
                have f29 : t.getD 29 undef = u29 := hfr 29 rfl
                have f30 : t.getD 30 undef = u30 := hfr 30 rfl
                have f31 : t.getD 31 undef = u31 := hfr 31 rfl
                have f32 : t.getD 32 undef = u32 := hfr 32 rfl
                have f33 : t.getD 33 undef = u33 := hfr 33 rfl
                have f34 : t.getD 34 undef = u34 := hfr 34 rfl
                have f35 : t.getD 35 undef = u35 := hfr 35 rfl
                have f36 : t.getD 36 undef = .slice (some ⟨b1, o1, none⟩) n c := hfr 36 rfl
                have f37 : t.getD 37 undef = .int .i64 200 := hfr 37 rfl
                have f38 : t.getD 38 undef = fv38 := hfr 38 rfl
                have f39 : t.getD 39 undef = .slice (some ⟨b1, o1, none⟩) n n := hfr 39 rfl
                have f40 : t.getD 40 undef = .int .i64 m := hfr 40 rfl
                have f41 : t.getD 41 undef = .int .i64 k := hfr 41 rfl
                have f58 : t.getD 58 undef = undef := hfr 58 rfl
                obtain ⟨vz, sz, z1, z2, z3⟩ := hall 13 _ rfl
                simp only [f0, f1, f2, f3, f4, f5, f6, f7, f8, f9, f10, f11, f12, f13, f14, f15, f16, f17, f18, f19, f20, f21, f22, f23, f24, f25, f26, f27, f28, f29, f30, f31, f32, f33, f34, f35, f36, f37, f38, f39, f40, f41, f58, List.range, List.range.loop, List.map] at ht
                rw [ht]
                have Z1 := Lib.hid z1
                have Z2 := Lib.hid z2
                have Z3 := Lib.hid z3
                have ZT := Lib.hid hTT
                clear ht f0 f1 f2 f3 f4 f5 f6 f7 f8 f9 f10 f11 f12 f13 f14 f15 f16 f17 f18 f19 f20 f21 f22 f23 f24 f25 f26 f27 f28 f29 f30 f31 f32 f33 f34 f35 f36 f37 f38 f39 f40 f41 f58 hfr hall hsz hTT hlall z1 z2 z3
                generalize t.getD 42 undef = z42
                generalize t.getD 43 undef = z43
                generalize t.getD 44 undef = z44
                generalize t.getD 45 undef = z45
                generalize t.getD 46 undef = z46
                generalize t.getD 47 undef = z47
                generalize t.getD 48 undef = z48
                generalize t.getD 49 undef = z49
                generalize t.getD 50 undef = z50
                generalize t.getD 51 undef = z51
                generalize t.getD 52 undef = z52
                generalize t.getD 53 undef = z53
                generalize t.getD 54 undef = z54
                generalize t.getD 55 undef = z55
                generalize t.getD 56 undef = z56
                generalize t.getD 57 undef = z57
                have HF2 := Lib.hid (hF.out.drew.trans ZT.out.frm (fun i hi h => h.elim (fun e => e) (fun e => absurd (hvq0 i e) (by omega))))
                have HK2 := Lib.hid ((hKO.out.trans (KeepsOthers.drew _)).trans ZT.out.ko)
                gi_wp2
                go_roundw
                case rel =>
                  refine ⟨k + 1, ss ++ [sz], vz, by omega, by go_num, by simp; omega, Z2.out, Z3.out, Lib.hid (fun i hi => ?_), HF2, HK2⟩
                  by_cases e : i = k
                  · subst e
                    have : (ss ++ [sz]).getD i [] = sz := by simp [List.getD, ← hsl]
                    rw [this]; exact Z1.out
                  · have : (ss ++ [sz]).getD i [] = ss.getD i [] := by simp only [List.getD]; rw [List.getElem?_append_left (by omega)]
                    rw [this]; exact hrk.out i (by omega)
                case measure => simp [intOf]; omega
            · have e : k = m := by omega
              have HEm := Lib.hid e
              have HOBE := Lib.hid hob
              have HOWE := Lib.hid hown
              have hBSx : BS < wx.heap.size := by have := HS2.out; omega
              have hBSx1 : BS + 1 < wx.heap.size := by have := HS2.out; omega
              clear e hob hown
              gi_wp2
              refine ⟨hKO.out, ⟨(hF.out.block BS hBSx (by omega)).trans (H5.out.block BS hBSx (by omega)).symm, (hF.out.block (BS + 1) hBSx1 (by omega)).trans (H5.out.block (BS + 1) hBSx1 (by omega)).symm⟩, ss, v', HOBE.out, by rw [hsl]; exact HOWE.out, by rw [hsl]; simp; exact HEm.out, fun i hi => hrk.out i (by omega), hF.out⟩
        case done =>
          rintro D xs W hD rfl ⟨ss, v', h1, h2, h3, h4, h5⟩ hK
          have hmm : ss.length = m := by simpa using h3
          subst hmm
          obtain ⟨va, vc, rfl⟩ := row_form h2
          have c6 : W.cell? ⟨w.heap.size + 1, 0, none⟩ = some (.slice va ss.length vc) := (Lib.cell_of_heap h1 _).trans rfl
          have f6 : W.frozen? ⟨w.heap.size + 1, 0, none⟩ = false := Lib.frozen_of_heap h1 0
          have H1 := Lib.hid h1
          have H2z := Lib.hid h2
          have H4 := Lib.hid h4
          have H5 := Lib.hid h5
          have HKD := Lib.hid hK
          clear h1 h2 h3 h4 h5 hK
          simp only [Exit.inBlock, Exit.then]
          first
            | (rename_i Ky hKy Kz hKz; refine hKy _ _ ?_)
            | (rename_i Ky hKy Kz hKz; refine hKz _ _ ?_)
            | (rename_i Kx hKx Ky hKy Kz hKz; refine hKx _ _ ?_)
            | (rename_i Ky hKy q Kz hKz; refine hKy _ _ ?_)
          go_wp2_with fail
          have hK2 := (KeepsOthers.setCell W ⟨w.heap.size + 1, 0, none⟩ (.slice va ss.length vc)).same D _ HKD.out rfl
          refine ⟨by simp, .inl ⟨_, _, rfl, run_takeDeferred hK2, ?_⟩⟩
          have hDlt := lt_of_block HKD.out
          have hgp := grownBy_putObj' (W.setCell ⟨w.heap.size + 1, 0, none⟩ (.slice va ss.length vc)) D (.deferred none)
          have hFp : Frm (fun q => q = D) (W.setCell ⟨w.heap.size + 1, 0, none⟩ (.slice va ss.length vc)) ((W.setCell ⟨w.heap.size + 1, 0, none⟩ (.slice va ss.length vc)).putObj D (.deferred none)) := ⟨hgp.os, hgp.tape, hgp.output, hgp.size, fun q hq hs => hgp.block q hq (fun e => hs (by cases e; rfl))⟩
          have hvb : ∀ q, (Value.slice va ss.length vc).ownBlock = some q → wx.heap.size ≤ q ∧ q ≠ D := fun q h => by
            obtain ⟨cur, z1, z2⟩ := row_block H2z.out h
            refine ⟨z2, fun e => ?_⟩
            subst e
            rw [HKD.out] at z1
            cases z1
          have hrow1 := ownsRow_setCell_other H2z.out (a := ⟨w.heap.size + 1, 0, none⟩) (fun e => by have := (hvb _ e).1; simp at this; omega) (.slice va ss.length vc)
          have hrow2 := row_frm hrow1 hFp (fun q h => (hvb q h).2)
          have hbz : Below w.heap.size w ((W.setCell ⟨w.heap.size + 1, 0, none⟩ (.slice va ss.length vc)).putObj D (.deferred none)) :=
            ((((HB1.out.trans (HB2.out.mono HB1.out.size)).trans (Frm.below (B := w.heap.size) H5.out (by omega) (fun q h => by omega))).setCell (p := ⟨w.heap.size + 1, 0, none⟩) (Nat.le_succ _) _)).trans (Frm.below (B := w.heap.size) hFp (by have := H5.out.size; simp; omega) (fun q h => by omega))
          refine ⟨_, res56 rfl ((World.cell?_of_block (a := ⟨w.heap.size + 1, 0, none⟩) (hFp.block _ (by have := H5.out.size; simp; omega) (by simp; omega))).trans (World.cell?_setCell_same' _ _ _ (by rw [c6]; rfl))), .inr ⟨ss, _, rfl, ⟨wx.heap.size, hrow2⟩, hm, H4.out, fun k hk => ⟨?_, HALL.out k hk⟩⟩, hbz⟩
          have := HOK.out k hk
          simp only [okE, Bool.and_eq_true, decide_eq_true_eq] at this
          exact this.1
  · clear hb
    have u1 : w1.frozen? ⟨w.heap.size + 1, 0, none⟩ = false := Lib.frozen_of_heap HBK.out 0
    have u0 : w1.cell? ⟨w.heap.size + 1, 0, none⟩ = some (.slice none 0 0) := (Lib.cell_of_heap HBK.out _).trans rfl
    have hB1 := HB1.out
    go_wp2_with fail
    refine ⟨_, res56 rfl (World.cell?_setCell_same' _ _ _ (by rw [u0]; rfl)), .inl rfl, hB1.setCell (p := ⟨w.heap.size + 1, 0, none⟩) (Nat.le_succ _) _⟩
end Go.Proofs.YtfcoigcenheefaaDoor
