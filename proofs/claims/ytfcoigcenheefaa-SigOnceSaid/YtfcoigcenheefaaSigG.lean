/-
  sig's New, Send, Due, Next and Len, and the chapter's example: which signals are there behind them; condition: at most 900 signals.
-/
import Derived.Test.YtfcoigcenheefaaSigF
set_option linter.unusedVariables false
set_option linter.unusedSimpArgs false
namespace Go.Proofs.Ytfcoigcenheefaa
open Go.RowKit
/-- A box, all of whose memory lies from block B on. -/
structure BX (B : Nat) (w : World) (b : Nat) (sv : Value) (L : List (Int × Int)) (A : List Int) : Prop where
  box : Box w b sv L A
  inv : Inv L A
  row : ∀ q, sv.ownBlock = some q → B ≤ q
  lo : B ≤ b
  sz : B ≤ w.heap.size

theorem nil_form {w : World} {b : Nat} {sv : Value} {L : List (Int × Int)} {A : List Int} (h : Box w b sv L A) : ∃ sg cap, sv = .slice sg L.length cap := by
  obtain ⟨a, l, c, rfl⟩ : ∃ a l c, sv = .slice a l c := by
    rcases h.own.2 with ⟨h1, _⟩ | ⟨g, cap, cur, h1, _⟩
    · exact ⟨_, _, _, h1⟩
    · exact ⟨_, _, _, h1⟩
  obtain ⟨h1, _, _⟩ := row_len h.own
  exact ⟨a, c, by rw [h1]⟩
theorem row_at {w : World} {b : Nat} {sg : Option Addr} {cap : Nat} {L : List (Int × Int)} {A : List Int} (h : Box w b (.slice sg L.length cap) L A) (h0 : 0 < L.length) : ∃ g, sg = some ⟨g, 0, none⟩ := by
  obtain ⟨g, c, h1, _⟩ := h.own.form h0
  simp at h1
  exact ⟨g, h1.1⟩

set_option maxHeartbeats 1000000 in
theorem send_out {w : World} {b : Nat} (m due : Int) (hm : m < 0 ∨ 64 ≤ m) : Calls Try.prog 12 #[.pointer (some ⟨b, 0, none⟩), .int .i64 m, .int .i64 due] w fun e w' => e = .returned (.bool false) ∧ w' = w := by
  rcases hm with hm | hm
  · go_enter Try.func12, Try.ntmps12
    go_wp2
    go_ret
    exact ⟨rfl, rfl⟩
  · have : ¬ m < 0 := by omega
    go_enter Try.func12, Try.ntmps12
    go_wp2
    go_ret
    exact ⟨rfl, rfl⟩
set_option maxHeartbeats 1000000 in
theorem send_new {B : Nat} {w : World} {b : Nat} {sv : Value} {L : List (Int × Int)} {A : List Int} (h : BX B w b sv L A) (m : Nat) (due : Int) (hm : m < 64) (hno : ∀ d, ¬ Has L m d) (hl : L.length ≤ 900) :
    Calls Try.prog 12 #[.pointer (some ⟨b, 0, none⟩), .int .i64 m, .int .i64 due] w fun e w' => e = .returned (.bool true) ∧
      (∃ sv' L' A', BX B w' b sv' L' A' ∧ L'.length = L.length + 1 ∧ ∀ (m' d : Int), Has L' m' d ↔ Has L m' d ∨ (m' = (m : Int) ∧ d = due)) ∧ Below B w w' := by
  obtain ⟨sg, cap, rfl⟩ := nil_form h.box
  have hn := (h.inv.none hm).2 hno
  have cA := h.box.cA m hm
  rw [hn] at cA
  have hm1 : (m : Int) < 64 := by omega
  go_enter Try.func12, Try.ntmps12
  go_wp2_with (go_at_call 19; refine (hpush_any h.box h.inv hl m due hm hn).mono ?_; rintro e w1 ⟨rfl, ⟨g', n', cap', L', A', hB, hI', hlen, hHas, hat⟩, hF⟩)
  go_ret
  have hbel : Below B w w1 := hF.below h.sz (fun q e => by rcases e with e | e; subst e; exact h.lo; exact h.row q e)
  refine ⟨rfl, ⟨_, L', A', ⟨hB, hI', fun q hq => ?_, h.lo, Nat.le_trans h.sz hF.size⟩, hlen, hHas⟩, hbel⟩
  simp [Value.ownBlock] at hq; subst hq
  rcases hat with e | e
  · exact h.row _ e
  · have := h.sz; omega
set_option maxHeartbeats 1000000 in
theorem send_keep {B : Nat} {w : World} {b : Nat} {sv : Value} {L : List (Int × Int)} {A : List Int} (h : BX B w b sv L A) (m : Nat) (due d : Int) (hm : m < 64) (hd : Has L m d) (hle : d ≤ due) (hl : L.length ≤ 900) :
    Calls Try.prog 12 #[.pointer (some ⟨b, 0, none⟩), .int .i64 m, .int .i64 due] w fun e w' => e = .returned (.bool false) ∧ w' = w := by
  obtain ⟨sg, cap, rfl⟩ := nil_form h.box
  obtain ⟨k, h1, h2, h3⟩ := h.inv.some hm hd
  obtain ⟨g, rfl⟩ := row_at h.box (by omega)
  have cA := h.box.cA m hm
  rw [h1] at cA
  have c0 := h.box.c0
  have cL := (h.box.cL k h2).2
  rw [h3] at cL
  dsimp only at cL
  have hm1 : (m : Int) < 64 := by omega
  have hk : ((k : Int) == -1) = false := by simp
  have hk1 : (k : Int) < (L.length : Int) := by omega
  have hk2 : ¬ due < d := by omega
  clear h1 h3
  go_enter Try.func12, Try.ntmps12
  go_wp2
  go_ret
  exact ⟨rfl, rfl⟩
theorem flat_set1 (L : List (Int × Int)) (i : Nat) (d : Int) (h : i < L.length) : (flat L).set (i * 2 + 1) (.int .i64 d) = flat (L.set i ((L.getD i (0, 0)).1, d)) := by
  induction L generalizing i with
  | nil => simp at h
  | cons a l ih =>
    cases i with
    | zero => simp [flat]
    | succ i =>
      have := ih i (by simpa using h)
      rw [show (i + 1) * 2 + 1 = i * 2 + 1 + 1 + 1 by omega]
      simpa [flat, List.getD] using this
theorem Box.setDue {w : World} {b g n cap : Nat} {L : List (Int × Int)} {A : List Int} (h : Box w b (.slice (some ⟨g, 0, none⟩) n cap) L A) (i : Nat) (d : Int) (hi : i < L.length) :
    Box (w.setCell ⟨g, i * 2 + 1, none⟩ (.int .i64 d)) b (.slice (some ⟨g, 0, none⟩) n cap) (L.set i ((L.getD i (0, 0)).1, d)) A := by
  obtain ⟨hl1, hl2, hl3⟩ := row_len h.own
  subst hl1
  refine ⟨?_, h.alen, ?_⟩
  · rw [heap_setCell_other _ _ _ _ (by simpa using Ne.symm h.ne)]; exact h.blk
  · have q1 := (h.own.stored (i * 2 + 1) (.int .i64 d)).1
    rw [flat_set1 L i d hi] at q1
    rw [List.length_set]; exact q1
set_option maxHeartbeats 1000000 in
theorem send_low {B : Nat} {w : World} {b : Nat} {sv : Value} {L : List (Int × Int)} {A : List Int} (h : BX B w b sv L A) (m : Nat) (due d : Int) (hm : m < 64) (hd : Has L m d) (hlt : due < d) (hl : L.length ≤ 900) :
    Calls Try.prog 12 #[.pointer (some ⟨b, 0, none⟩), .int .i64 m, .int .i64 due] w fun e w' => e = .returned (.bool false) ∧
      (∃ sv' L' A', BX B w' b sv' L' A' ∧ L'.length = L.length ∧ Has L' m due ∧ ∀ (m' d : Int), m' ≠ (m : Int) → (Has L' m' d ↔ Has L m' d)) ∧ Below B w w' := by
  obtain ⟨sg, cap, rfl⟩ := nil_form h.box
  obtain ⟨k, h1, h2, h3⟩ := h.inv.some hm hd
  obtain ⟨g, rfl⟩ := row_at h.box (by omega)
  have cA := h.box.cA m hm
  rw [h1] at cA
  have c0 := h.box.c0
  have cL := (h.box.cL k h2).2
  have cL0 := (h.box.cL k h2).1
  rw [h3] at cL cL0
  dsimp only at cL cL0
  have hm1 : (m : Int) < 64 := by omega
  have hk : ((k : Int) == -1) = false := by simp
  have hk1 : (k : Int) < (L.length : Int) := by omega
  have H3 := Lib.hid h3
  have fz := h.box.own.frozenAt (k * 2 + 1)
  clear h1 h3
  go_enter Try.func12, Try.ntmps12
  have hB1 := h.box.setDue k due h2
  obtain ⟨hI1, hH1⟩ := h.inv.lower h2 due
  go_wp2_with fail
  refine (hfix_any hB1 hI1 k (by simpa using h2) (by simpa using hl)).mono ?_
  rintro e w1 ⟨rfl, ⟨L', A', hB', hI', hS, _⟩, hF⟩
  go_wp2_with fail
  go_ret
  have hgB : B ≤ g := h.row g rfl
  have hF1 : Frm (fun q => q = b ∨ q = g) w w1 := ((Frm.refl (fun q => q = b ∨ q = g) w).setCell (p := ⟨g, k * 2 + 1, none⟩) (.inr (.inr rfl)) (.int .i64 due)).trans hF (fun _ _ e => e)
  have hbel : Below B w w1 := hF1.below h.sz (fun q e => by rcases e with e | e; rw [e]; exact h.lo; rw [e]; exact hgB)
  refine ⟨rfl, ⟨_, L', A', ⟨hB', hI', fun q hq => ?_, h.lo, Nat.le_trans h.sz hF1.size⟩, by rw [hS.1]; simp, (hS.2 _ _).2 ⟨k, by simpa using h2, ?_⟩, fun m' d' hm' => ?_⟩, hbel⟩
  · simp [Value.ownBlock] at hq; rw [← hq]; exact hgB
  · rw [getD_set, if_pos ⟨rfl, h2⟩, H3.out]
  · rw [hS.2]
    exact hH1 m' d' (by have := H3.out; rw [this]; exact hm')

set_option maxHeartbeats 1000000 in
theorem due_none {w : World} {b : Nat} {sv : Value} {L : List (Int × Int)} {A : List Int} (h : Box w b sv L A) (m : Nat) (now : Int) (hm : m < 64) (hn : A.getD m 0 = -1) :
    Calls Try.prog 13 #[.pointer (some ⟨b, 0, none⟩), .int .i64 m, .int .i64 now] w fun e w' => e = .returned (.bool false) ∧ w' = w := by
  have cA := h.cA m hm
  rw [hn] at cA
  have hm1 : (m : Int) < 64 := by omega
  go_enter Try.func13, Try.ntmps13
  go_wp2
  go_ret
  exact ⟨rfl, rfl⟩
set_option maxHeartbeats 1000000 in
theorem due_early {B : Nat} {w : World} {b : Nat} {sv : Value} {L : List (Int × Int)} {A : List Int} (h : BX B w b sv L A) (m : Nat) (now d : Int) (hm : m < 64) (hd : Has L m d) (hlt : now < d) (hl : L.length ≤ 900) :
    Calls Try.prog 13 #[.pointer (some ⟨b, 0, none⟩), .int .i64 m, .int .i64 now] w fun e w' => e = .returned (.bool false) ∧ w' = w := by
  obtain ⟨sg, cap, rfl⟩ := nil_form h.box
  obtain ⟨k, h1, h2, h3⟩ := h.inv.some hm hd
  obtain ⟨g, rfl⟩ := row_at h.box (by omega)
  have cA := h.box.cA m hm
  rw [h1] at cA
  have c0 := h.box.c0
  have cL := (h.box.cL k h2).2
  rw [h3] at cL
  dsimp only at cL
  have hm1 : (m : Int) < 64 := by omega
  have hk : ((k : Int) == -1) = false := by simp
  have hk1 : (k : Int) < (L.length : Int) := by omega
  clear h1 h3
  go_enter Try.func13, Try.ntmps13
  go_wp2
  go_ret
  exact ⟨rfl, rfl⟩
set_option maxHeartbeats 1000000 in
theorem due_now {B : Nat} {w : World} {b : Nat} {sv : Value} {L : List (Int × Int)} {A : List Int} (h : BX B w b sv L A) (m : Nat) (now d : Int) (hm : m < 64) (hd : Has L m d) (hle : d ≤ now) (hl : L.length ≤ 900) :
    Calls Try.prog 13 #[.pointer (some ⟨b, 0, none⟩), .int .i64 m, .int .i64 now] w fun e w' => e = .returned (.bool true) ∧
      (∃ sv' L' A', Box w' b sv' L' A' ∧ A'.getD m 0 = -1) ∧ Below B w w' := by
  obtain ⟨sg, cap, rfl⟩ := nil_form h.box
  obtain ⟨k, h1, h2, h3⟩ := h.inv.some hm hd
  obtain ⟨g, rfl⟩ := row_at h.box (by omega)
  have cA := h.box.cA m hm
  rw [h1] at cA
  have c0 := h.box.c0
  have cL := (h.box.cL k h2).2
  rw [h3] at cL
  dsimp only at cL
  have hm1 : (m : Int) < 64 := by omega
  have hk : ((k : Int) == -1) = false := by simp
  have hk1 : (k : Int) < (L.length : Int) := by omega
  have hk2 : ¬ now < d := by omega
  have H3 : Hid ((L.getD k (0, 0)).1 = (m : Int)) := by show _ = _; rw [h3]
  have hgB : B ≤ g := h.row g rfl
  clear h1 h3
  go_enter Try.func13, Try.ntmps13
  go_wp2_with (go_at_call 21; refine (hremove_any h.box h.inv k m h2 hl H3.out hm).mono ?_; rintro e w1 ⟨⟨v, rfl⟩, ⟨n', L', A', hB', hA'⟩, hF⟩)
  go_ret
  exact ⟨rfl, ⟨_, L', A', hB', hA'⟩, hF.below h.sz (fun q e => by rcases e with e | e; rw [e]; exact h.lo; rw [e]; exact hgB)⟩
set_option maxHeartbeats 1000000 in
theorem next_any {w : World} {b : Nat} {sv : Value} {m d : Int} {A : List Int} (h : Box w b sv [(m, d)] A) :
    Calls Try.prog 17 #[.pointer (some ⟨b, 0, none⟩)] w fun e w' => e = .returned (.tuple #[.int .i64 m, .int .i64 d, .bool true]) ∧ ∃ n, w' = w.drewN n := by
  obtain ⟨sg, cap, rfl⟩ := nil_form h
  obtain ⟨g, rfl⟩ := row_at h (by simp)
  have c0 := h.c0
  obtain ⟨c1, c2⟩ := h.cL 0 (by simp)
  simp at c1 c2
  go_enter Try.func17, Try.ntmps17
  go_wp2_with (go_at_call 18; refine (blen_any h).mono ?_; rintro e w' ⟨rfl, hw⟩; cases hw)
  go_quiet (fail)
  go_wp2
  go_ret3
  exact ⟨rfl, _, rfl⟩
/-- What New's loop has made behind i rounds. -/
def made (i : Nat) : List Int := List.replicate i (-1) ++ List.replicate (64 - i) 0
def away64 : List Int := List.replicate 64 (-1)
theorem away_get (m : Nat) (h : m < 64) : away64.getD m 0 = -1 := by
  unfold away64
  rw [List.getD, List.getElem?_replicate, if_pos h]; rfl
theorem made_64 (i : Nat) (h : i = 64) : made i = away64 := by subst h; simp [made, away64]
theorem zero54 (w : World) : Sem.run Try.prog (zeroValue 54) w = .ok (.agg (Value.slice none 0 0 :: (made 0).map (Value.int .i64)).toArray) w := by kernel_rfl
theorem made_set (i : Nat) (h : i < 64) : (made i).set i (-1) = made (i + 1) := by
  unfold made
  rw [List.set_append_right _ _ (by simp)]
  simp only [List.length_replicate, Nat.sub_self]
  rw [show 64 - i = (64 - (i + 1)) + 1 by omega, List.replicate_succ, List.set_cons_zero, List.replicate_succ', List.append_assoc]
  rfl
theorem made_len (i : Nat) (h : i ≤ 64) : (made i).length = 64 := by unfold made; simp; omega
set_option maxRecDepth 100000 in
set_option maxHeartbeats 1000000 in
theorem bnew_any (w : World) : Calls Try.prog 11 #[] w fun e w' => e = .returned (.pointer (some ⟨w.heap.size, 0, none⟩)) ∧ BX w.heap.size w' w.heap.size (.slice none 0 0) [] away64 ∧ Below w.heap.size w w' := by
  obtain ⟨Z, hZ⟩ : ∃ Z, Z = (Value.slice none 0 0 :: (made 0).map (Value.int .i64)).toArray := ⟨_, rfl⟩
  have z54 := fun w => zero54 w
  rw [← hZ] at z54
  have HZ := Lib.hid hZ
  clear hZ
  go_enter Try.func11, Try.ntmps11
  go_wp2_with fail
  go_loopw [5] (fun s5 wr => ∃ i : Nat, i ≤ 64 ∧ s5 = .int .i64 i ∧ Box wr w.heap.size (.slice none 0 0) [] (made i) ∧ Below w.heap.size w wr ∧ w.heap.size < wr.heap.size) (fun s5 _ => 64 - (intOf s5).toNat)
  case atStart =>
    refine ⟨0, by omega, rfl, ⟨?_, made_len 0 (by omega), World.ownsRow_nil _ _ _ _⟩, (Below.refl _ _).alloc (Nat.le_refl _) _, by simp⟩
    rw [← HZ.out]; exact heap_alloc_new _ _
  case round =>
    obtain ⟨i, hi, rfl, hB, hb, hs⟩ := hrel
    by_cases hlt : i < 64
    · have hi1 : (i : Int) < 64 := by omega
      have hi0 : (0 : Int) ≤ (i : Int) := by omega
      have cA := hB.cA i hlt
      have fz := hB.fz (1 + i)
      go_wp2_with fail
      go_roundw
      case rel =>
        refine ⟨i + 1, by omega, by go_num, ?_, hb.setCell (p := ⟨w.heap.size, 1 + i, none⟩) (Nat.le_refl _) _, by simpa using hs⟩
        have q := hB.setA (by simp [Value.ownBlock]) i (-1)
        rw [made_set i hlt] at q; exact q
      case measure => simp [intOf]; omega
    · have h64 : ¬ (i : Int) < 64 := by omega
      go_wp2_with fail
      go_ret
      rw [made_64 i (by omega)] at hB
      refine ⟨rfl, ⟨hB, ⟨hB.alen, fun i hi => by simp at hi, fun m hm => .inl (away_get m hm)⟩, fun q hq => by simp [Value.ownBlock] at hq, Nat.le_refl _, by omega⟩, hb⟩

theorem BX.below {B : Nat} {w w' : World} {b : Nat} {sv : Value} {L : List (Int × Int)} {A : List Int} (h : BX B w b sv L A) (hf : Frm (fun _ => False) w w') : BX B w' b sv L A :=
  ⟨h.box.frm hf, h.inv, h.row, h.lo, Nat.le_trans h.sz hf.size⟩
theorem BX.drewN {B : Nat} {w : World} {b : Nat} {sv : Value} {L : List (Int × Int)} {A : List Int} (h : BX B w b sv L A) (n : Nat) : BX B (w.drewN n) b sv L A :=
  h.below (Frm.drewN (Frm.refl _ _) n)
/-- A list of one signal. -/
theorem one_of {L : List (Int × Int)} {m d : Int} (hl : L.length = 1) (hd : Has L m d) : L = [(m, d)] := by
  match L, hl with
  | [x], _ =>
    obtain ⟨i, hi, he⟩ := hd
    have : i = 0 := by simpa using hi
    subst this
    simp at he; rw [he]
set_option maxRecDepth 100000 in
set_option maxHeartbeats 1000000 in
/-- The chapter's example. -/
theorem salive_any (w : World) : Calls Try.prog 10 #[] w fun e w' => e = .returned (.bool true) ∧ Below w.heap.size w w' := by
  go_enter Try.func10, Try.ntmps10
  go_wp2_with (go_at_call 11; refine (bnew_any _).mono ?_; rintro e w1 ⟨rfl, hX, hb⟩)
  refine (send_new hX 1 5 (by omega) (fun d hd => by obtain ⟨i, hi, _⟩ := hd; simp at hi) (by simp)).mono ?_
  rintro e w2 ⟨rfl, ⟨sv2, L2, A2, hX2, hl2, hH2⟩, hb2⟩
  have hd2 : Has L2 ((1 : Nat) : Int) 5 := (hH2 _ _).2 (.inr ⟨rfl, rfl⟩)
  go_wp2_with fail
  refine (send_low hX2 1 3 5 (by omega) hd2 (by omega) (by rw [hl2]; simp)).mono ?_
  rintro e w3 ⟨rfl, ⟨sv3, L3, A3, hX3, hl3, hd3, _⟩, hb3⟩
  have hL3 : L3 = [(1, 3)] := one_of (by rw [hl3, hl2]; rfl) hd3
  subst hL3
  obtain ⟨sg3, cap3, rfl⟩ := nil_form hX3.box
  go_wp2_with (first
    | (go_at_call 17; refine (next_any hX3.box).mono ?_; rintro e w' ⟨rfl, nn, rfl⟩)
    | (go_at_call 18; refine (blen_any (hX3.drewN nn).box).mono ?_; rintro e w' ⟨rfl, hw⟩; cases hw))
  go_ret
  exact ⟨rfl, ((hb.trans hb2).trans hb3).trans ⟨rfl, rfl, rfl, Nat.le_refl _, fun _ _ => rfl⟩⟩
end Go.Proofs.Ytfcoigcenheefaa
