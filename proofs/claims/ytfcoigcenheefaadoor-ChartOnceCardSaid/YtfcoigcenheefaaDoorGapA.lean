import Derived.Test.YtfcoigcenheefaaDoorChecked
import Derived.Test.YtfcoigcenheefaaDoorBase
set_option linter.unusedVariables false
set_option linter.unusedSimpArgs false
namespace Go.Proofs.YtfcoigcenheefaaDoor
open Go.RowKit
set_option maxHeartbeats 1000000 in
theorem same_any (w : World) (v1 v2 : Value) (xs ys : List Int) (h1 : ListAt (Value.int .i64) 0 w v1 xs) (h2 : ListAt (Value.int .i64) 0 w v2 ys) (hx : xs.length ≤ 1000000) (hy : ys.length ≤ 1000000) :
    Calls Tryd.prog 15 #[v1, v2] w fun e w' => e = .returned (.bool (decide (xs = ys))) ∧ ∃ n, w' = w.drewN n := by
  obtain ⟨a1, c1, rfl, h1⟩ := h1
  obtain ⟨a2, c2, rfl, h2⟩ := h2
  by_cases hl : xs.length = ys.length
  · have hb : ((xs.length : Int) != (ys.length : Int)) = false := by simp; omega
    obtain ⟨n, hn⟩ : ∃ n, n = ys.length := ⟨_, rfl⟩
    rw [← hn] at hl hb ⊢
    rw [hl] at h1 hb hx ⊢
    rw [← hn] at h2
    have HL := Lib.hid hl
    have HN := Lib.hid hn
    have H1 := Lib.hid h1
    have H2 := Lib.hid h2
    clear hl hn h1 h2
    go_enter Tryd.func15, Tryd.ntmps15
    go_wp2_with fail
    go_loopw [5] (fun s5 wr => ∃ k : Nat, k ≤ n ∧ s5 = .int .i64 k ∧ Hid (sameTo 0 xs ys k = true) ∧ ∃ m, wr = w.drewN m) (fun s5 _ => n - (intOf s5).toNat)
    case atStart => exact ⟨0, Nat.zero_le _, rfl, rfl, 0, rfl⟩
    case round =>
      obtain ⟨k, hk, rfl, hs, m, rfl⟩ := hrel
      by_cases hlt : k < n
      · obtain ⟨b1, o1, rfl, q1⟩ := H1.out (by omega)
        obtain ⟨b2, o2, rfl, q2⟩ := H2.out (by omega)
        have d1 := q1 k hlt
        have d2 := q2 k hlt
        clear q1 q2
        obtain ⟨x, hx0⟩ : ∃ x, x = xs.getD k 0 := ⟨_, rfl⟩
        obtain ⟨y, hy0⟩ : ∃ y, y = ys.getD k 0 := ⟨_, rfl⟩
        rw [← hx0] at d1
        rw [← hy0] at d2
        have HX := Lib.hid hx0
        have HY := Lib.hid hy0
        clear hx0 hy0
        have k0 : (0 : Int) ≤ (k : Int) := by omega
        have k1 : (k : Int) < (n : Int) := by omega
        by_cases hxy : x = y
        · have hb2 : (x != y) = false := by simpa using hxy
          have HXY := Lib.hid hxy
          clear hxy
          go_wp2_with fail
          go_quiet (fail)
          go_wp2_with fail
          go_roundw
          case rel =>
            refine ⟨k + 1, by omega, by go_num, ?_, _, rfl⟩
            show _ = _
            rw [sameTo_succ, hs.out, Bool.true_and, ← HX.out, ← HY.out]; simpa using HXY.out
          case measure => simp [intOf]; omega
        · have hb2 : (x != y) = true := by simpa using hxy
          go_wp2_with fail
          go_quiet (fail)
          go_wp2_with fail
          go_ret
          refine ⟨?_, _, World.drewN_drewN _ _ _⟩
          rw [sameTo_false 0 xs ys (by have := HL.out; have := HN.out; omega) k (by have := HL.out; omega) (by rw [← HX.out, ← HY.out]; exact hxy)]
          rfl
      · go_wp2_with fail
        go_ret
        refine ⟨?_, m, rfl⟩
        have e : k = xs.length := by have := HL.out; omega
        have h := hs.out
        rw [e, sameTo_eq 0 xs ys (by have := HL.out; have := HN.out; omega)] at h
        rw [h]; rfl
  · have hb : ((xs.length : Int) != (ys.length : Int)) = true := by simp; omega
    have hne : decide (xs = ys) = false := by simp; rintro rfl; exact hl rfl
    have HNE := Lib.hid hne
    clear hl h1 h2 hne
    go_enter Tryd.func15, Tryd.ntmps15
    go_wp2_with fail
    go_ret
    exact ⟨by rw [HNE.out]; rfl, 0, rfl⟩

/-- An event's cells. -/
structure Ev where
  kind : Int
  g : Int
  fn : Int
  pc : Int
  n : Int
instance : Inhabited Ev := ⟨⟨0, 0, 0, 0, 0⟩⟩
structure EvAt (w : World) (b o : Nat) (e : Ev) : Prop where
  c0 : w.cell? ⟨b, o, none⟩ = some (.int .i64 e.kind)
  c1 : w.cell? ⟨b, o + 1, none⟩ = some (.int .i64 e.g)
  c2 : w.cell? ⟨b, o + 2, none⟩ = some (.int .i64 e.fn)
  c3 : w.cell? ⟨b, o + 3, none⟩ = some (.int .i64 e.pc)
  c4 : w.cell? ⟨b, o + 4, none⟩ = some (.int .i64 e.n)
theorem EvAt.below {w w' : World} {B b o : Nat} {e : Ev} (h : EvAt w b o e) (hb : Below B w w') (hB : w.heap.size ≤ B) : EvAt w' b o e :=
  ⟨below_cell hb hB h.c0, below_cell hb hB h.c1, below_cell hb hB h.c2, below_cell hb hB h.c3, below_cell hb hB h.c4⟩
/-- A list of events, behind a slice. -/
def EvsAt (w : World) (v : Value) (l : List Ev) : Prop :=
  ∃ a cap, v = .slice a l.length cap ∧ (0 < l.length → ∃ b o, a = some ⟨b, o, none⟩ ∧ ∀ i, i < l.length → EvAt w b (o + i * 5) (l.getD i default))
theorem EvsAt.below {w w' : World} {B : Nat} {v : Value} {l : List Ev} (h : EvsAt w v l) (hb : Below B w w') (hB : w.heap.size ≤ B) : EvsAt w' v l := by
  obtain ⟨a, c, h1, h2⟩ := h
  refine ⟨a, c, h1, fun h0 => ?_⟩
  obtain ⟨b, o, h3, h4⟩ := h2 h0
  exact ⟨b, o, h3, fun i hi => (h4 i hi).below hb hB⟩
theorem EvsAt.drewN {w : World} {v : Value} {l : List Ev} (h : EvsAt w v l) (n : Nat) : EvsAt (w.drewN n) v l := h.below (below_drewN w.heap.size w n) (Nat.le_refl _)

theorem Tryd.info3 : (Tryd.prog.info? 3).map (fun i => (i.zero, i.size, i.bytes)) = some (some (.int .i64 0), 1, 8) := by kernel_rfl

/-- How many events of others stand ahead of each of g: (the list, how many since). -/
def gapsTo (gs : List Int) (g : Int) : Nat → List Int × Nat
  | 0 => ([], 0)
  | k + 1 => if gs.getD k 0 = g then ((gapsTo gs g k).1 ++ [((gapsTo gs g k).2 : Int)], 0) else ((gapsTo gs g k).1, (gapsTo gs g k).2 + 1)
theorem gapsTo_le (gs : List Int) (g : Int) (k : Nat) : (gapsTo gs g k).1.length ≤ k ∧ (gapsTo gs g k).2 ≤ k := by
  induction k with
  | zero => simp [gapsTo]
  | succ k ih =>
    unfold gapsTo
    split
    · simp; omega
    · simp; omega
set_option maxHeartbeats 1000000 in
theorem rgaps_any (w : World) (v : Value) (l : List Ev) (g : Int) (h : EvsAt w v l) (hl : l.length ≤ 100000) :
    Calls Tryd.prog 17 #[v, .int .i64 g] w fun e w' => ∃ r, e = .returned r ∧ w'.ownsRow w.heap.size 3 1 r (gapsTo (l.map Ev.g) g l.length).1.length ((gapsTo (l.map Ev.g) g l.length).1.map (Value.int .i64)) ∧ Below w.heap.size w w' := by
  obtain ⟨a, c, rfl, h2⟩ := h
  obtain ⟨n, hn⟩ : ∃ n, n = l.length := ⟨_, rfl⟩
  rw [← hn] at h2 hl ⊢
  have HN := Lib.hid hn
  have H2 := Lib.hid h2
  clear hn h2
  go_enter Tryd.func17, Tryd.ntmps17
  go_wp2_with fail
  go_loopw [5, 6, 7] (fun s5 s6 s7 wr => ∃ k : Nat, k ≤ n ∧ s7 = .int .i64 k ∧ s6 = .int .i64 (gapsTo (l.map Ev.g) g k).2 ∧ wr.ownsRow w.heap.size 3 1 s5 (gapsTo (l.map Ev.g) g k).1.length ((gapsTo (l.map Ev.g) g k).1.map (Value.int .i64)) ∧ Below w.heap.size w wr) (fun _ _ s7 _ => n - (intOf s7).toNat)
  case atStart => exact ⟨0, Nat.zero_le _, rfl, rfl, World.ownsRow_nil _ _ _ _, Below.refl _ _⟩
  case round =>
    obtain ⟨k, hk, rfl, rfl, hown, hb⟩ := hrel
    by_cases hlt : k < n
    · obtain ⟨b, o, rfl, q⟩ := H2.out (by omega)
      have hE := (q k hlt).below hb (Nat.le_refl _)
      clear q
      have c1 := hE.c1
      obtain ⟨x, hx⟩ : ∃ x, x = (l.getD k default).g := ⟨_, rfl⟩
      rw [← hx] at c1
      have HX : Hid (x = (l.map Ev.g).getD k 0) := by
        show _ = _
        rw [hx]; have := HN.out; simp [List.getD, List.getElem?_map, List.getElem?_eq_getElem (show k < l.length by omega)]
      clear hx hE
      have hle := gapsTo_le (l.map Ev.g) g k
      obtain ⟨L, hL⟩ : ∃ L, L = (gapsTo (l.map Ev.g) g k).1 := ⟨_, rfl⟩
      obtain ⟨m, hm⟩ : ∃ m, m = (gapsTo (l.map Ev.g) g k).2 := ⟨_, rfl⟩
      rw [← hL] at hown hle
      rw [← hm] at hle ⊢
      have HL := Lib.hid hL
      have HM := Lib.hid hm
      clear hL hm
      obtain ⟨hle1, hle2⟩ := hle
      have k0 : (0 : Int) ≤ (k : Int) := by omega
      have k1 : (k : Int) < (n : Int) := by omega
      by_cases hg : x = g
      · have hb2 : (x != g) = false := by simpa using hg
        have HG := Lib.hid hg
        clear hg
        have hz := hb.size
        go_wp2_with (at_builtin; refine wpList_app wr 3 [.int .i64 m] rfl _ _ 26 rfl w.heap.size (.int .i64 0) 1 8 Tryd.underlying26 Tryd.info3 rfl (by decide) _ _ _ rfl hown _ rfl (by simp) rfl rfl (by omega) (by omega) hz w.heap.size w hb (Nat.le_refl _) ?_; intro gg cap w' hown' hb' _ _)
        go_roundw
        case rel =>
          have e : gapsTo (l.map Ev.g) g (k + 1) = (L ++ [(m : Int)], 0) := by
            show (if (l.map Ev.g).getD k 0 = g then _ else _) = _
            rw [← HX.out, if_pos HG.out, ← HL.out, ← HM.out]
          refine ⟨k + 1, by omega, by go_num, ?_, ?_, hb'⟩
          · rw [e]; rfl
          · rw [e]; simpa using hown'
        case measure => simp [intOf]; omega
      · have hb2 : (x != g) = true := by simpa using hg
        go_wp2_with fail
        go_roundw
        case rel =>
          have e : gapsTo (l.map Ev.g) g (k + 1) = (L, m + 1) := by
            show (if (l.map Ev.g).getD k 0 = g then _ else _) = _
            rw [← HX.out, if_neg hg, ← HL.out, ← HM.out]
          refine ⟨k + 1, by omega, by go_num, ?_, ?_, hb⟩
          · rw [e]; go_num
          · rw [e]; exact hown
        case measure => simp [intOf]; omega
    · have e : k = n := by omega
      have HE := Lib.hid e
      clear e
      go_wp2_with fail
      go_ret
      have e := HE.out
      subst e
      exact ⟨_, rfl, hown, hb⟩
end Go.Proofs.YtfcoigcenheefaaDoor
