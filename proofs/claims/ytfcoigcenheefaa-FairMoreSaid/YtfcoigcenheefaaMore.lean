/-
  The walks of escapementlaw31.FairMore, light and alive: what each call returns, and that no old memory turns; no condition but that the steps can be read.
-/
import Derived.Test.YtfcoigcenheefaaFair
set_option linter.unusedVariables false
set_option linter.unusedSimpArgs false
namespace Go.Proofs.Ytfcoigcenheefaa
open Go.RowKit

theorem row_form {w : World} {base : Nat} {e : TypeId} {size : Nat} {v : Value} {n : Nat} {xs : List Value} (h : w.ownsRow base e size v n xs) : ∃ a l c, v = .slice a l c := by
  rcases h.2 with ⟨h1, _⟩ | ⟨g, cap, cur, h1, _⟩
  · exact ⟨_, _, _, h1⟩
  · exact ⟨_, _, _, h1⟩

/-- A list of bools, behind a slice. -/
def BoolsAt (w : World) (v : Value) (ps : List Bool) : Prop :=
  ∃ pa cap, v = .slice pa ps.length cap ∧ (0 < ps.length → ∃ b o, pa = some ⟨b, o, none⟩ ∧ ∀ i, i < ps.length → w.cell? ⟨b, o + i, none⟩ = some (.bool (ps.getD i false)))

structure StepPost (w : World) (b : Nat) (k : Int) (sv : Value) (L : List Int) (x : Int) (bad : Bool) (w' : World) : Prop where
  wat : ∃ sv', Wat w' b k sv' L x bad ∧ (∀ q, sv'.ownBlock = some q → sv.ownBlock = some q ∨ w.heap.size ≤ q)
  frm : Frm (fun q => q = b ∨ sv.ownBlock = some q) w w'
def nL (L : List Int) (ps : List Bool) (pick : Int) : List Int := cntAll L ps (modZ pick ps.length)
def nx (L : List Int) (x : Int) (ps : List Bool) (pick delay : Int) : Int := worst2 ps.length (nL L ps pick) (worst1 x delay)
def nb (bad : Bool) (ps : List Bool) : Bool := bad || decide (ps.length = 0)

theorem step_wat {w : World} {b : Nat} {k : Int} {sv : Value} {L : List Int} {x : Int} {bad : Bool} (hw : Wat w b k sv L x bad) {pv : Value} {ps : List Bool} (hp : BoolsAt w pv ps) (hn : ps.length ≤ 20)
    (hd : 0 < ps.length → ∀ q, pv.ownBlock = some q → q ≠ b ∧ sv.ownBlock ≠ some q) (pick delay draw : Int)
    (d1 : -9223372036854775808 ≤ pick ∧ pick ≤ 9223372036854775807) (d2 : -9223372036854775808 ≤ delay ∧ delay ≤ 9223372036854775807) :
    Calls Try.prog 8 #[.pointer (some ⟨b, 0, none⟩), pv, .agg #[.int .i64 pick, .int .i64 delay, .int .i64 draw]] w fun e w' =>
      e = .returned (.bool (fairB (nb bad ps) (nx L x ps pick delay) k)) ∧ StepPost w b k sv (nL L ps pick) (nx L x ps pick delay) (nb bad ps) w' := by
  obtain ⟨sg, sl, sc, rfl⟩ := row_form hw.own
  obtain ⟨pa, cap, rfl, hpc⟩ := hp
  by_cases h0 : 0 < ps.length
  · obtain ⟨pb, po, rfl, hc⟩ := hpc h0
    obtain ⟨h1, h2⟩ := hd h0 pb rfl
    exact (step_any b ps.length cap (some ⟨pb, po, none⟩) pb po k x pick delay draw bad sg sl sc L ps w hw rfl hn (fun _ => rfl) hc h1 h2 d1.1 d1.2 d2.1 d2.2).mono
      fun e w' ⟨he, sv', h3, _, h5, h6⟩ => ⟨he, ⟨⟨sv', h3, h6⟩, h5⟩⟩
  · obtain ⟨q, hq1, hq2⟩ : ∃ q, q ≠ b ∧ Value.ownBlock (.slice sg sl sc) ≠ some q := by
      cases sg with
      | none => exact ⟨b + 1, by omega, by simp [Value.ownBlock]⟩
      | some a => exact ⟨b + a.block + 1, by omega, by simp [Value.ownBlock]; omega⟩
    exact (step_any b ps.length cap pa q 0 k x pick delay draw bad sg sl sc L ps w hw rfl hn (fun h => absurd h h0) (fun i hi => absurd hi (by omega)) hq1 hq2 d1.1 d1.2 d2.1 d2.2).mono
      fun e w' ⟨he, sv', h3, _, h5, h6⟩ => ⟨he, ⟨⟨sv', h3, h6⟩, h5⟩⟩

theorem new_wat (w : World) (k : Int) : Wat (w.alloc (.cells #[.int .i64 k, .slice none 0 0, .int .i64 1, .bool false] 44)) w.heap.size k (.slice none 0 0) [] 1 false :=
  ⟨heap_alloc_new _ _, World.ownsRow_nil _ _ _ _⟩
theorem Wat.alloc {w : World} {b : Nat} {k : Int} {sv : Value} {L : List Int} {x : Int} {bad : Bool} (h : Wat w b k sv L x bad) (o : Obj) : Wat (w.alloc o) b k sv L x bad :=
  ⟨(heap_alloc_old _ _ (lt_of_block h.blk)).trans h.blk, h.own.alloc o⟩
theorem ex1 : nL [] [false] 7 = [0] := by decide
theorem ex2 : nx [] 1 [false] 7 0 = 1 := by decide +kernel
theorem ex3 : nb false [false] = false := by decide

set_option maxHeartbeats 1000000 in
/-- The chapter's example. -/
theorem alive_any (w : World) : Calls Try.prog 6 #[] w fun e w' => e = .returned (.bool true) ∧ Below w.heap.size w w' := by
  go_enter Try.func6, Try.ntmps6
  go_wp2_with (go_at_call 7; refine (new_any 1 _ (by omega) (by omega)).mono ?_; rintro e w' ⟨rfl, rfl⟩)
  have hb : BoolsAt ((w.alloc (.cells #[.int .i64 1, .slice none 0 0, .int .i64 1, .bool false] 44)).alloc (.cells #[.bool false] 4)) (.slice (some ⟨w.heap.size + 1, 0, none⟩) 1 1) [false] :=
    ⟨_, 1, rfl, fun _ => ⟨_, _, rfl, fun i hi => by
      have : i = 0 := by simpa using hi
      subst this
      have h := World.cell?_alloc_new (w.alloc (.cells #[.int .i64 1, .slice none 0 0, .int .i64 1, .bool false] 44)) #[.bool false] 4 0
      rw [World.size_alloc] at h
      exact h⟩⟩
  refine (step_wat ((new_wat w 1).alloc _) hb (by simp) (fun _ q hq => ?_) 7 0 0 (by omega) (by omega)).mono ?_
  · simp [Value.ownBlock] at hq; subst hq; exact ⟨by omega, by simp [Value.ownBlock]⟩
  rintro e w1 ⟨he, ⟨sv', hw1, _⟩, hf⟩
  rw [ex1, ex2, ex3] at hw1
  rw [ex2, ex3] at he
  have he' : e = .returned (.bool true) := he
  subst he'
  have hbl : Below w.heap.size w w1 := ((((Below.refl w.heap.size w).alloc (Nat.le_refl _) _).alloc (by simp) _).trans (hf.below (by simp; omega) (fun k hk => by
    rcases hk with hk | hk
    · omega
    · simp [Value.ownBlock] at hk)))
  clear he hb
  go_wp2_with (first
    | (go_at_call 9; refine (worst_wat hw1).mono ?_; rintro e w' ⟨rfl, rfl⟩)
    | (go_at_call 14; refine (fair_wat hw1).mono ?_; rintro e w' ⟨rfl, nn, rfl⟩))
  go_ret
  exact ⟨rfl, hbl.trans ⟨rfl, rfl, rfl, Nat.le_refl _, fun _ _ => rfl⟩⟩

structure St where
  ps : List Bool
  pick : Int
  delay : Int
  draw : Int
instance : Inhabited St := ⟨⟨[], 0, 0, 0⟩⟩
structure StAt (w : World) (b o : Nat) (s : St) (pv : Value) : Prop where
  c0 : w.cell? ⟨b, o, none⟩ = some pv
  c1 : w.cell? ⟨b, o + 1, none⟩ = some (.int .i64 s.pick)
  c2 : w.cell? ⟨b, o + 2, none⟩ = some (.int .i64 s.delay)
  c3 : w.cell? ⟨b, o + 3, none⟩ = some (.int .i64 s.draw)
  bs : BoolsAt w pv s.ps
  r1 : -9223372036854775808 ≤ s.pick ∧ s.pick ≤ 9223372036854775807
  r2 : -9223372036854775808 ≤ s.delay ∧ s.delay ≤ 9223372036854775807
def lightTo (l : List St) (k : Nat) : Bool := (l.take k).all fun s => decide (s.ps.length ≤ 20)
def lightB (l : List St) : Bool := decide (l.length ≤ 60) && lightTo l l.length
theorem lightTo_succ (l : List St) (k : Nat) (h : k < l.length) : lightTo l (k + 1) = (lightTo l k && decide ((l.getD k default).ps.length ≤ 20)) := by
  unfold lightTo
  rw [List.take_succ_eq_append_getElem h, List.all_append]
  simp [List.getD, h]
theorem lightTo_mono (l : List St) (k : Nat) (h : lightTo l k = false) : lightTo l l.length = false := by
  by_cases hk : k ≤ l.length
  · have : l = l.take k ++ l.drop k := (List.take_append_drop k l).symm
    unfold lightTo at *
    rw [List.take_length]
    rw [this, List.all_append, h, Bool.false_and]
  · unfold lightTo at *
    rw [List.take_of_length_le (by omega)] at h
    rw [List.take_length]; exact h

set_option maxHeartbeats 1000000 in
theorem light_any (w : World) (pa : Option Addr) (b o cap : Nat) (l : List St) (n : Nat) (hn : n = l.length) (hn2 : n ≤ 9223372036854775807) (hpa : 0 < n → pa = some ⟨b, o, none⟩) (hl : ∀ i, i < n → ∃ pv, StAt w b (o + i * 4) (l.getD i default) pv) :
    Calls Try.prog 5 #[.slice pa n cap] w fun e w' => e = .returned (.bool (lightB l)) ∧ w' = w := by
  have HN := Lib.hid hn
  have HL := Lib.hid hl
  have HPA := Lib.hid hpa
  clear hn hl hpa
  by_cases h60 : n ≤ 60
  · go_enter Try.func5, Try.ntmps5
    go_wp2
    go_loop [3] (fun i => ∃ k : Nat, k ≤ n ∧ i = .int .i64 k ∧ Hid (lightTo l k = true)) (fun i => n - (intOf i).toNat)
    case atStart => exact ⟨0, Nat.zero_le _, rfl, by simp [Hid, lightTo]⟩
    case round =>
      obtain ⟨k, hk, rfl, HLT⟩ := hrel
      by_cases hlt : k < n
      · obtain rfl := HPA.out (by omega)
        obtain ⟨pv, hs⟩ := HL.out k hlt
        obtain ⟨pb, pc, rfl, hbs⟩ := hs.bs
        have c0 := hs.c0
        obtain ⟨m, hm⟩ : ∃ m, m = (l.getD k default).ps.length := ⟨_, rfl⟩
        rw [← hm] at c0
        have HM := Lib.hid hm
        clear hm hbs hs
        have hlt' : (k : Int) < (n : Int) := by omega
        go_wp2
        · have h : (20 : Int) < (m : Int) := by assumption
          go_ret
          refine ⟨?_, rfl⟩
          have e1 : lightTo l (k + 1) = false := by
            rw [lightTo_succ l k (by have := HN.out; omega), ← HM.out]; simp; omega
          rw [lightB, lightTo_mono l _ e1, Bool.and_false]; rfl
        · have h : (m : Int) ≤ 20 := by assumption
          go_round
          case rel =>
            refine ⟨k + 1, hlt, by go_num, ?_⟩
            show _ = _
            rw [lightTo_succ l k (by have := HN.out; omega), ← HM.out, HLT.out]; simp; omega
          case measure => simp [intOf]; omega
      · go_wp2
        go_ret
        refine ⟨?_, rfl⟩
        have e1 : k = l.length := by have := HN.out; omega
        have e2 : lightTo l k = true := HLT
        rw [lightB, ← e1, e2, Bool.and_true, show decide (k ≤ 60) = true by simp; omega]; rfl
  · go_enter Try.func5, Try.ntmps5
    go_wp2
    go_ret
    refine ⟨?_, rfl⟩
    rw [lightB, show decide (l.length ≤ 60) = false by have := HN.out; simp; omega]; rfl

def StepsAt (w : World) (v : Value) (l : List St) : Prop :=
  ∃ (pa : Option Addr) (b o cap : Nat), v = .slice pa l.length cap ∧ (0 < l.length → pa = some ⟨b, o, none⟩) ∧ ∀ i, i < l.length → ∃ pv, StAt w b (o + i * 4) (l.getD i default) pv

/-- The states of both watches behind k steps. -/
def stTo (l : List St) : Nat → List Int × Int × Bool
  | 0 => ([], 1, false)
  | k + 1 => let s := l.getD k default; let a := stTo l k; (nL a.1 s.ps s.pick, nx a.1 a.2.1 s.ps s.pick s.delay, nb a.2.2 s.ps)

structure Two (B : Nat) (w wr : World) (ba bb : Nat) (k more : Int) (L : List Int) (x : Int) (bad : Bool) : Prop where
  ha : ∃ sa sb, Wat wr ba k sa L x bad ∧ Wat wr bb (k + more) sb L x bad ∧ (∀ q, sa.ownBlock = some q → B ≤ q ∧ sb.ownBlock ≠ some q) ∧ (∀ q, sb.ownBlock = some q → B ≤ q)
  la : B ≤ ba
  lb : B ≤ bb
  ne : ba ≠ bb
  fr : Below B w wr

theorem BoolsAt.below {B : Nat} {w w' : World} (hB : Below B w w') (hs : B = w.heap.size) {v : Value} {ps : List Bool} (h : BoolsAt w v ps) : BoolsAt w' v ps := by
  obtain ⟨pa, cap, h1, h2⟩ := h
  refine ⟨pa, cap, h1, fun h0 => ?_⟩
  obtain ⟨b, o, h3, h4⟩ := h2 h0
  refine ⟨b, o, h3, fun i hi => ?_⟩
  exact (hB.cell (by have := block_lt_of_cell (h4 i hi); rw [hs]; exact this)).trans (h4 i hi)
theorem StAt.below {B : Nat} {w w' : World} (hB : Below B w w') (hs : B = w.heap.size) {b o : Nat} {s : St} {pv : Value} (h : StAt w b o s pv) : StAt w' b o s pv := by
  have hb : b < B := by have := block_lt_of_cell h.c0; rw [hs]; exact this
  exact ⟨(hB.cell hb).trans h.c0, (hB.cell hb).trans h.c1, (hB.cell hb).trans h.c2, (hB.cell hb).trans h.c3, h.bs.below hB hs, h.r1, h.r2⟩
theorem BoolsAt.lt {w : World} {v : Value} {ps : List Bool} (h : BoolsAt w v ps) (h0 : 0 < ps.length) {q : Nat} (hq : v.ownBlock = some q) : q < w.heap.size := by
  obtain ⟨pa, cap, rfl, h2⟩ := h
  obtain ⟨b, o, rfl, h4⟩ := h2 h0
  simp [Value.ownBlock] at hq; subst hq
  exact block_lt_of_cell (h4 0 h0)

theorem Wat.frm {w w' : World} {S : Nat → Prop} {b : Nat} {k : Int} {sv : Value} {L : List Int} {x : Int} {bad : Bool} (h : Wat w b k sv L x bad) (hf : Frm S w w') (h1 : ¬ S b) (h2 : ∀ q, sv.ownBlock = some q → ¬ S q) : Wat w' b k sv L x bad :=
  ⟨(hf.block b (lt_of_block h.blk) h1).trans h.blk, row_frm h.own hf h2⟩
theorem lt_of_own {w : World} {base : Nat} {e : TypeId} {size : Nat} {v : Value} {n : Nat} {xs : List Value} (h : w.ownsRow base e size v n xs) {g : Nat} (hg : v.ownBlock = some g) : g < w.heap.size := by
  obtain ⟨cur, h1, _⟩ := row_block h hg
  exact lt_of_block h1
theorem below_pre {B : Nat} {w w' : World} (h : Below B w.drew w') : Below B w w' := ⟨h.os, h.tape, h.output, h.size, h.block⟩
theorem Wat.ne' {w : World} {b b' : Nat} {k k' : Int} {sv sv' : Value} {L L' : List Int} {x x' : Int} {bad bad' : Bool} (h : Wat w b k sv L x bad) (h' : Wat w b' k' sv' L' x' bad') (_ : b ≠ b') : sv.ownBlock ≠ some b' := by
  intro e
  obtain ⟨cur, h1, _⟩ := row_block h.own e
  rw [h'.blk] at h1; simp at h1
theorem Wat.ne'' {w : World} {b b' : Nat} {k k' : Int} {sv sv' : Value} {L L' : List Int} {x x' : Int} {bad bad' : Bool} (h : Wat w b k sv L x bad) (h' : Wat w b' k' sv' L' x' bad') : sv.ownBlock ≠ some b' := by
  intro e
  obtain ⟨cur, h1, _⟩ := row_block h.own e
  rw [h'.blk] at h1; simp at h1
theorem BoolsAt.drew {w : World} {v : Value} {ps : List Bool} (h : BoolsAt w v ps) : BoolsAt w.drew v ps := h
theorem BoolsAt.frm {w w' : World} {S : Nat → Prop} {v : Value} {ps : List Bool} (h : BoolsAt w v ps) (hf : Frm S w w') (h1 : ∀ q, v.ownBlock = some q → 0 < ps.length → ¬ S q) : BoolsAt w' v ps := by
  obtain ⟨pa, cap, rfl, h2⟩ := h
  refine ⟨pa, cap, rfl, fun h0 => ?_⟩
  obtain ⟨b, o, rfl, h4⟩ := h2 h0
  exact ⟨b, o, rfl, fun i hi => hf.cell (h4 i hi) (h1 b rfl h0)⟩
set_option maxRecDepth 100000 in
set_option maxHeartbeats 1000000 in
theorem fairMore_any (w : World) (pa : Option Addr) (b o cap : Nat) (l : List St) (n : Nat) (hn : n = l.length) (hn2 : n ≤ 9223372036854775807) (hpa : 0 < n → pa = some ⟨b, o, none⟩) (hl : ∀ i, i < n → ∃ pv, StAt w b (o + i * 4) (l.getD i default) pv)
   (k more : Int) :
    Calls Try.prog 3 #[.int .i64 k, .int .i64 more, .slice pa n cap] w fun e w' => e = .returned (.bool true) ∧ Below w.heap.size w w' := by
  have HN := Lib.hid hn
  have HL := Lib.hid hl
  have HPA := Lib.hid hpa
  clear hn hl hpa
  by_cases hlt : lightB l = true ∧ 1 ≤ k ∧ k ≤ 1000 ∧ 0 ≤ more ∧ more ≤ 1000 - k
  · obtain ⟨h1, h2, h3, h4, h5⟩ := hlt
    go_enter Try.func3, Try.ntmps3
    go_wp2_with (first
      | (go_at_call 5; refine (light_any _ _ b o _ l _ HN.out (by omega) HPA.out HL.out).mono ?_; rintro e w' ⟨rfl, hww⟩; cases hww)
      | (go_at_call 7; refine (new_any _ _ (by omega) (by omega)).mono ?_; rintro e w' ⟨rfl, rfl⟩))
    obtain ⟨ba, hba⟩ : ∃ ba, ba = w.heap.size := ⟨_, rfl⟩
    obtain ⟨bb, hbb⟩ : ∃ bb, bb = w.heap.size + 1 := ⟨_, rfl⟩
    go_loopw [9] (fun s9 wr => ∃ i : Nat, i ≤ n ∧ s9 = .int .i64 i ∧ Two w.heap.size w wr w.heap.size (w.heap.size + 1) k more (stTo l i).1 (stTo l i).2.1 (stTo l i).2.2) (fun s9 _ => n - (intOf s9).toNat)
    case atStart =>
      refine ⟨0, Nat.zero_le _, rfl, ⟨⟨.slice none 0 0, .slice none 0 0, (new_wat w k).alloc _, ?_, ?_, ?_⟩, Nat.le_refl _, by omega, by omega, ?_⟩⟩
      · have h := new_wat (w.alloc (.cells #[.int .i64 k, .slice none 0 0, .int .i64 1, .bool false] 44)) (k + more)
        rw [World.size_alloc] at h; exact h
      · simp [Value.ownBlock]
      · simp [Value.ownBlock]
      · exact ((Below.refl _ _).alloc (Nat.le_refl _) _).alloc (by simp) _
    case round =>
      obtain ⟨i, hi, rfl, hT⟩ := hrel
      by_cases hin : i < n
      · obtain rfl := HPA.out (by omega)
        obtain ⟨pv, hs⟩ := HL.out i hin
        obtain ⟨⟨La, xa, bada⟩, hst⟩ : ∃ st, st = stTo l i := ⟨_, rfl⟩
        rw [← hst] at hT
        obtain ⟨s, hsd⟩ : ∃ s, s = l.getD i default := ⟨_, rfl⟩
        rw [← hsd] at hs
        have HST := Lib.hid hst
        have HSD := Lib.hid hsd
        clear hst hsd
        obtain ⟨⟨sa, sb, hWa, hWb, hq1, hq2⟩, _, _, _, hfr⟩ := hT
        have hs1 := hs.below hfr rfl
        have c0 := hs1.c0
        have c1 := hs1.c1
        have c2 := hs1.c2
        have c3 := hs1.c3
        have hin' : (i : Int) < (n : Int) := by omega
        have hi0 : (0 : Int) ≤ (i : Int) := by omega
        have hbB : b < w.heap.size := block_lt_of_cell hs.c0
        have hpn : s.ps.length ≤ 20 := by
          have e1 : lightTo l l.length = true := by
            have := h1
            rw [lightB, Bool.and_eq_true] at this; exact this.2
          have e2 : lightTo l (i + 1) = true := by
            cases h : lightTo l (i + 1) with
            | true => rfl
            | false => rw [lightTo_mono l _ h] at e1; cases e1
          rw [lightTo_succ l i (by have := HN.out; omega), Bool.and_eq_true, ← HSD.out] at e2
          simpa using e2.2
        have hpq : ∀ q, pv.ownBlock = some q → 0 < s.ps.length → q < w.heap.size := fun q hq h0 => hs.bs.lt h0 hq
        have hbs := hs1.bs
        dsimp only at hWa hWb
        have HD1 : Hid (0 < s.ps.length → ∀ q, pv.ownBlock = some q → q ≠ w.heap.size ∧ sa.ownBlock ≠ some q) := fun h0 q hq =>
          ⟨by have := hpq q hq h0; omega, fun e => by have := (hq1 q e).1; have := hpq q hq h0; omega⟩
        have HD2 : Hid (0 < s.ps.length → ∀ q, pv.ownBlock = some q → q ≠ w.heap.size + 1 ∧ sb.ownBlock ≠ some q) := fun h0 q hq =>
          ⟨by have := hpq q hq h0; omega, fun e => by have := hq2 q e; have := hpq q hq h0; omega⟩
        have HA : Hid (∀ q, q < w.heap.size → ¬ (q = w.heap.size ∨ sa.ownBlock = some q)) := fun q hq e => by
          rcases e with e | e
          · omega
          · have := (hq1 q e).1; omega
        have HB : Hid (∀ q, q < w.heap.size → ¬ (q = w.heap.size + 1 ∨ sb.ownBlock = some q)) := fun q hq e => by
          rcases e with e | e
          · omega
          · have := hq2 q e; omega
        have HWB : Hid (∀ w1, StepPost wr.drew w.heap.size k sa (nL La s.ps s.pick) (nx La xa s.ps s.pick s.delay) (nb bada s.ps) w1 → Wat w1 (w.heap.size + 1) (k + more) sb La xa bada) := fun w1 hp =>
          hWb.drew.frm hp.frm (fun e => by rcases e with e | e; omega; exact hWa.ne' hWb (by omega) e) (fun q hq e => by
            rcases e with e | e
            · subst e; exact (hWb.ne'' hWa hq)
            · exact (hq1 q e).2 hq)
        have HBS : Hid (∀ w1, StepPost wr.drew w.heap.size k sa (nL La s.ps s.pick) (nx La xa s.ps s.pick s.delay) (nb bada s.ps) w1 → BoolsAt w1 pv s.ps) := fun w1 hp =>
          hbs.drew.frm hp.frm (fun q hq h0 => HA q (hpq q hq h0))
        have hr1 := (HL.out i hin)
        have HR : Hid ((-9223372036854775808 ≤ s.pick ∧ s.pick ≤ 9223372036854775807) ∧ (-9223372036854775808 ≤ s.delay ∧ s.delay ≤ 9223372036854775807)) := ⟨hs.r1, hs.r2⟩
        have HQ : Hid ((∀ (q : Nat), sa.ownBlock = some q → w.heap.size ≤ q ∧ sb.ownBlock ≠ some q) ∧ ∀ q, sb.ownBlock = some q → w.heap.size ≤ q) := ⟨hq1, hq2⟩
        clear hs hs1 hr1 hba hbb hq1 hq2 hpq
        go_upto_region 7 with fail
        go_region_held3 (fun w' => w'.cell? ⟨b, o + i * 4, none⟩ = some pv ∧ w'.cell? ⟨b, o + i * 4 + 1, none⟩ = some (.int .i64 s.pick) ∧ w'.cell? ⟨b, o + i * 4 + 2, none⟩ = some (.int .i64 s.delay) ∧ w'.cell? ⟨b, o + i * 4 + 3, none⟩ = some (.int .i64 s.draw))
          (first | go_keep | exact ⟨hp1.frm.cell c0 (HA.out b hbB), hp1.frm.cell c1 (HA.out b hbB), hp1.frm.cell c2 (HA.out b hbB), hp1.frm.cell c3 (HA.out b hbB)⟩ | exact ⟨hp2.frm.cell (hp1.frm.cell c0 (HA.out b hbB)) (HB.out b hbB), hp2.frm.cell (hp1.frm.cell c1 (HA.out b hbB)) (HB.out b hbB), hp2.frm.cell (hp1.frm.cell c2 (HA.out b hbB)) (HB.out b hbB), hp2.frm.cell (hp1.frm.cell c3 (HA.out b hbB)) (HB.out b hbB)⟩)
          (first
            | (go_at_call_of 8 (Value.pointer (some ⟨w.heap.size, 0, none⟩)); refine (step_wat hWa.drew hbs.drew hpn HD1.out s.pick s.delay s.draw HR.out.1 HR.out.2).mono ?_; rintro e w1 ⟨rfl, hp1⟩)
            | (go_at_call 8; refine (step_wat (HWB.out _ hp1) (HBS.out _ hp1) hpn HD2.out s.pick s.delay s.draw HR.out.1 HR.out.2).mono ?_; rintro e w2 ⟨rfl, hp2⟩))
        have hq := HQ.out
        have hWb1 := HWB.out _ hp1
        obtain ⟨⟨sa', hWa1, hla⟩, hf1⟩ := hp1
        obtain ⟨⟨sb', hWb2, hlb⟩, hf2⟩ := hp2
        have hWa2 := hWa1.frm hf2 (fun e => by rcases e with e | e; omega; exact hWb.ne'' hWa e) (fun q hq' e => by
            rcases e with e | e
            · subst e; exact (hWa1.ne'' hWb1 hq')
            · rcases hla q hq' with h | h
              · exact (hq.1 q h).2 e
              · have := lt_of_own hWb.own e; simp at h; omega)
        have HT : Hid (Two w.heap.size w w2 w.heap.size (w.heap.size + 1) k more (stTo l (i + 1)).1 (stTo l (i + 1)).2.1 (stTo l (i + 1)).2.2) := by
          have e1 : stTo l (i + 1) = (nL La s.ps s.pick, nx La xa s.ps s.pick s.delay, nb bada s.ps) := by
            show (let s := l.getD i default; let a := stTo l i; (nL a.1 s.ps s.pick, nx a.1 a.2.1 s.ps s.pick s.delay, nb a.2.2 s.ps)) = _
            rw [← HSD.out, ← HST.out]
          show Two _ _ _ _ _ _ _ _ _ _
          rw [e1]
          have hz := hfr.size
          have hz1 := hf1.size
          refine ⟨⟨sa', sb', hWa2, hWb2, fun q hq' => ⟨?_, fun e => ?_⟩, fun q hq' => ?_⟩, Nat.le_refl _, by omega, by omega, ?_⟩
          · rcases hla q hq' with h | h
            · exact (hq.1 q h).1
            · simp at h; omega
          · have h1 := lt_of_own hWa1.own hq'
            rcases hlb q e with h | h
            · rcases hla q hq' with h' | h'
              · exact (hq.1 q h').2 h
              · have := lt_of_own hWb.own h; simp at h'; omega
            · omega
          · rcases hlb q hq' with h | h
            · exact hq.2 q h
            · simp at hz1; omega
          · have h1 : Below w.heap.size wr w1 := below_pre (hf1.below (B := w.heap.size) (by simp; omega) (fun q e => by rcases e with e | e; omega; exact (hq.1 q e).1))
            have h2 : Below w.heap.size w1 w2 := hf2.below (B := w.heap.size) (by simp at hz1; omega) (fun q e => by rcases e with e | e; omega; exact hq.2 q e)
            exact (hfr.trans h1).trans h2
        obtain ⟨x2, hx2⟩ : ∃ x2, x2 = nx La xa s.ps s.pick s.delay := ⟨_, rfl⟩
        rw [← hx2] at hWa2 hWb2 ⊢
        obtain ⟨bd, hbd⟩ : ∃ bd, bd = nb bada s.ps := ⟨_, rfl⟩
        rw [← hbd] at hWa2 hWb2 ⊢
        obtain ⟨X, hX⟩ : ∃ X, X = fairB bd x2 k := ⟨_, rfl⟩
        obtain ⟨Y, hY⟩ : ∃ Y, Y = fairB bd x2 (k + more) := ⟨_, rfl⟩
        rw [← hX, ← hY]
        have HXY : X = true → Y = true ∧ x2 ≤ k := fun h => by
          have h' : fairB bd x2 k = true := by rw [← hX]; exact h
          rw [fairB, Bool.and_eq_true] at h'
          have h6 : x2 ≤ k := by simpa using h'.2
          refine ⟨?_, h6⟩
          rw [hY, fairB, h'.1, Bool.true_and]; simp; omega
        clear hX hY hx2 hbd hla hlb hf1 hf2 hWa1 hWb1 hq hWa hWb hfr HA HB HD1 HD2 HWB HBS HQ HR
        cases X
        · go_wp2_with (first
            | (go_at_call_of 9 (Value.pointer (some ⟨w.heap.size, 0, none⟩)); refine (worst_wat hWa2).mono ?_; rintro e w' ⟨rfl, hww⟩; cases hww)
            | (go_at_call 9; refine (worst_wat hWb2).mono ?_; rintro e w' ⟨rfl, hww⟩; cases hww))
          go_roundw
          case rel => exact ⟨i + 1, by omega, by go_num, HT.out⟩
          case measure => simp [intOf]; omega
        · obtain ⟨rfl, hxk⟩ := HXY rfl
          go_wp2_with (first
            | (go_at_call_of 9 (Value.pointer (some ⟨w.heap.size, 0, none⟩)); refine (worst_wat hWa2).mono ?_; rintro e w' ⟨rfl, hww⟩; cases hww)
            | (go_at_call 9; refine (worst_wat hWb2).mono ?_; rintro e w' ⟨rfl, hww⟩; cases hww))
          go_roundw
          case rel => exact ⟨i + 1, by omega, by go_num, HT.out⟩
          case measure => simp [intOf]; omega
      · obtain ⟨_, _, _, _, hfr⟩ := hT
        go_wp2_with (go_at_call 6; refine (alive_any _).mono ?_; rintro e w' ⟨rfl, hb1⟩)
        go_ret
        exact ⟨rfl, hfr.trans (hb1.mono hfr.size)⟩
  · go_enter Try.func3, Try.ntmps3
    go_wp2_with (first
      | (go_at_call 5; refine (light_any _ _ b o _ l _ HN.out (by omega) HPA.out HL.out).mono ?_; rintro e w' ⟨rfl, hww⟩; cases hww)
      | (go_at_call 6; refine (alive_any _).mono ?_; rintro e w' ⟨rfl, hb1⟩))
    all_goals first
      | (go_ret; exact ⟨rfl, by assumption⟩)
      | exact absurd ⟨by assumption, by omega, by omega, by omega, by omega⟩ hlt
end Go.Proofs.Ytfcoigcenheefaa
