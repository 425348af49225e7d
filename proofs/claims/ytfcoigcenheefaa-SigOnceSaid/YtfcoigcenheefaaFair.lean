/-
  The walks of num.Mod, slices.Max at []int, and of fair's New, Step, Fair and Worst: what each returns and what becomes of the watch; conditions: at most 20 machines, Pick and Delay within int.
-/
import Derived.Test.YtfcoigcenheefaaChecked
import Derived.WalkKit
import Derived.WalkSpells
import Derived.WalkLawsBesides
import Derived.Lib.Hide
import Derived.Deep.QuietTactic
import Derived.BigQuiet
import Derived.StillTailTactics
import Derived.Deep.AppendLies
import Derived.Deep.RegionHeld3
import Derived.Deep.DeepCutAuto
import Derived.Deep.CutBlock
import Derived.Deep.LoopGhost
set_option linter.unusedVariables false
set_option linter.unusedSimpArgs false
namespace Go.Proofs.Ytfcoigcenheefaa
open Go.RowKit
/-- All blocks but those of S stay. -/
structure Frm (S : Nat → Prop) (w w' : World) : Prop where
  os : w'.os = w.os
  tape : w'.tape = w.tape
  output : w'.output = w.output
  size : w.heap.size ≤ w'.heap.size
  block : ∀ k, k < w.heap.size → ¬ S k → w'.heap[k]? = w.heap[k]?
theorem Frm.refl (S : Nat → Prop) (w : World) : Frm S w w := ⟨rfl, rfl, rfl, Nat.le_refl _, fun _ _ _ => rfl⟩
theorem Frm.drew {S : Nat → Prop} {a w : World} (h : Frm S a w) : Frm S a w.drew := ⟨h.os, h.tape, h.output, h.size, h.block⟩
theorem Frm.drewN {S : Nat → Prop} {a w : World} (h : Frm S a w) (n : Nat) : Frm S a (w.drewN n) := ⟨h.os, h.tape, h.output, h.size, h.block⟩
theorem Frm.alloc {S : Nat → Prop} {a w : World} (h : Frm S a w) (o : Obj) : Frm S a (w.alloc o) :=
  ⟨h.os, h.tape, h.output, by have := h.size; simp; omega, fun k hk hs => by rw [heap_alloc_old w o (by have := h.size; omega)]; exact h.block k hk hs⟩
theorem Frm.setCell {S : Nat → Prop} {a w : World} (h : Frm S a w) {p : Addr} (hp : a.heap.size ≤ p.block ∨ S p.block) (u : Value) : Frm S a (w.setCell p u) :=
  ⟨h.os, h.tape, h.output, by simpa using h.size, fun k hk hs => by
    rw [heap_setCell_other w p k u (fun e => by subst e; rcases hp with hp | hp; omega; exact hs hp)]; exact h.block k hk hs⟩
theorem Frm.trans {S T : Nat → Prop} {a b c : World} (h : Frm S a b) (k : Frm T b c) (hT : ∀ i, i < a.heap.size → T i → S i) : Frm S a c :=
  ⟨k.os.trans h.os, k.tape.trans h.tape, k.output.trans h.output, Nat.le_trans h.size k.size, fun i hi hs => (k.block i (Nat.lt_of_lt_of_le hi h.size) (fun ht => hs (hT i hi ht))).trans (h.block i hi hs)⟩
theorem Frm.grown {S : Nat → Prop} {a w w' : World} {row : Option Nat} (h : Frm S a w) (hg : w.grownBy w' row) (hr : ∀ k, row = some k → a.heap.size ≤ k ∨ S k) : Frm S a w' :=
  ⟨hg.os.trans h.os, hg.tape.trans h.tape, hg.output.trans h.output, Nat.le_trans h.size hg.size, fun k hk hs => by
    rw [hg.block k (by have := h.size; omega) (fun e => by rcases hr k e.symm with h' | h'; omega; exact hs h')]; exact h.block k hk hs⟩
theorem Frm.mono' {S T : Nat → Prop} {w w' : World} (h : Frm S w w') (hT : ∀ k, S k → T k) : Frm T w w' := ⟨h.os, h.tape, h.output, h.size, fun k hk hs => h.block k hk (fun e => hs (hT k e))⟩
theorem Frm.below {S : Nat → Prop} {w w' : World} (h : Frm S w w') {B : Nat} (hB : B ≤ w.heap.size) (hS : ∀ k, S k → B ≤ k) : Below B w w' :=
  ⟨h.os, h.tape, h.output, h.size, fun k hk => h.block k (by omega) (fun hs => by have := hS k hs; omega)⟩

/-- A watch at block b. -/
structure Wat (w : World) (b : Nat) (k : Int) (sv : Value) (L : List Int) (x : Int) (bad : Bool) : Prop where
  blk : w.heap[b]? = some (.cells #[.int .i64 k, sv, .int .i64 x, .bool bad] 44 (0, 0))
  own : w.ownsRow 0 3 1 sv L.length (L.map (Value.int .i64))

def modZ (i : Int) (n : Nat) : Int := if n = 0 then 0 else i % n
/-- What the loop of Step has made of the counts behind i rounds. -/
def cnt (L : List Int) (ps : List Bool) (at_ : Int) (j : Nat) : Int := if ps.getD j false = true ∨ (j : Int) = at_ then 0 else wrap64 (L.getD j 0 + 1)
def upTo (L : List Int) (ps : List Bool) (at_ : Int) (i : Nat) : List Int := (List.range i).map (cnt L ps at_) ++ L.drop i
theorem upTo_zero (L : List Int) (ps : List Bool) (at_ : Int) : upTo L ps at_ 0 = L := by simp [upTo]
theorem upTo_len (L : List Int) (ps : List Bool) (at_ : Int) (i : Nat) : (upTo L ps at_ i).length = i + (L.length - i) := by simp [upTo]
theorem upTo_get (L : List Int) (ps : List Bool) (at_ : Int) (i : Nat) (h : i < L.length) : (upTo L ps at_ i).getD i 0 = L.getD i 0 := by
  simp [upTo, List.getD, List.getElem?_append]
theorem upTo_set (L : List Int) (ps : List Bool) (at_ : Int) (i : Nat) (h : i < L.length) : (upTo L ps at_ i).set i (cnt L ps at_ i) = upTo L ps at_ (i + 1) := by
  apply List.ext_getElem?
  intro j
  simp only [upTo, List.range_succ, List.map_append]
  simp only [List.getElem?_set, List.getElem?_append, List.length_append, List.length_map, List.length_range, List.getElem?_map, List.getElem?_drop]
  by_cases h1 : i = j
  · subst h1; simp; omega
  · by_cases h2 : j < i
    · simp [h1, h2]; omega
    · have : ¬ j < i + 1 := by omega
      simp [h1, h2, this]
      congr 1; omega
theorem upTo_setM (L : List Int) (ps : List Bool) (at_ : Int) (i : Nat) (h : i < (upTo L ps at_ i).length) : (upTo L ps at_ i).set i (cnt L ps at_ i) = upTo L ps at_ (i + 1) :=
  upTo_set L ps at_ i (by rw [upTo_len] at h; omega)
theorem upTo_push (L : List Int) (ps : List Bool) (at_ : Int) (i : Nat) (h : L.length ≤ i) : (upTo L ps at_ i ++ [0]).set i (cnt L ps at_ i) = upTo L ps at_ (i + 1) := by
  have e1 : L.drop i = [] := List.drop_eq_nil_of_le h
  have e2 : L.drop (i + 1) = [] := List.drop_eq_nil_of_le (by omega)
  simp [upTo, e1, e2, List.range_succ, List.set_append]
theorem upTo_hit (L : List Int) (ps : List Bool) (at_ : Int) (i : Nat) : (upTo L ps at_ i).getD i 0 = L.getD i 0 := by
  simp [upTo, List.getD, List.getElem?_append]
theorem upTo_hit' (L : List Int) (ps : List Bool) (at_ : Int) (i : Nat) (h : i = (upTo L ps at_ i).length) : (upTo L ps at_ i ++ [0]).getD i 0 = L.getD i 0 := by
  have h2 : L.length ≤ i := by rw [upTo_len] at h; omega
  rw [List.getD, List.getElem?_append_right (by omega), show i - (upTo L ps at_ i).length = 0 by omega]
  simp [List.getD, List.getElem?_eq_none h2]
def mx (a b : Int) : Int := if a < b then b else a
def maxTo (zs : List Int) : Nat → Int
  | 0 => zs.getD 0 0
  | k + 1 => mx (maxTo zs k) (zs.getD (k + 1) 0)
def maxL (zs : List Int) : Int := maxTo zs (zs.length - 1)
set_option maxHeartbeats 400000 in
theorem max_any (g n cap : Nat) (zs : List Int) (w : World) (hz : zs.length = n) (hn : 0 < n) (hn2 : n ≤ 1000000) (hc : ∀ i, i < n → w.cell? ⟨g, i, none⟩ = some (.int .i64 (zs.getD i 0))) :
    Calls Try.prog 16 #[.slice (some ⟨g, 0, none⟩) n cap] w fun e w' => e = .returned (.int .i64 (maxL zs)) ∧ w' = w := by
  have hn1 : (0 : Int) < (n : Int) := by omega
  have h0 := hc 0 hn
  obtain ⟨z0, hz0⟩ : ∃ z0, z0 = zs.getD 0 0 := ⟨_, rfl⟩
  rw [← hz0] at h0
  have HZ : Hid (z0 = maxTo zs 0) := hz0
  clear hz0
  have HC := Lib.hid hc
  clear hc
  go_enter Try.func16, Try.ntmps16
  go_wp2
  go_loop [3, 4] (fun m i => ∃ k : Nat, k + 1 ≤ n ∧ i = .int .i64 ((k : Int) + 1) ∧ m = .int .i64 (maxTo zs k)) (fun _ i => n - (intOf i).toNat)
  case atStart => exact ⟨0, hn, rfl, by rw [HZ.out]⟩
  case round =>
    obtain ⟨k, hk, rfl, rfl⟩ := hrel
    by_cases hlt : k + 1 < n
    · have hk1 := HC.out (k + 1) hlt
      obtain ⟨z, hz⟩ : ∃ z, z = zs.getD (k + 1) 0 := ⟨_, rfl⟩
      rw [← hz] at hk1
      have H : Hid (maxTo zs (k + 1) = if maxTo zs k < z then z else maxTo zs k) := by rw [hz]; rfl
      clear hz
      obtain ⟨mm, hmm⟩ : ∃ mm, mm = maxTo zs k := ⟨_, rfl⟩
      rw [← hmm] at H ⊢
      clear hmm
      go_wp2
      go_round
      case rel => exact ⟨k + 1, hlt, by go_num, by rw [H.out]⟩
      case measure => simp [intOf]; omega
    · go_wp2
      go_ret
      exact ⟨by unfold maxL; rw [hz, show n - 1 = k by omega]; rfl, rfl⟩
def cntAll (L : List Int) (ps : List Bool) (at_ : Int) : List Int := upTo (L.take ps.length) ps at_ ps.length
def worst1 (x delay : Int) : Int := mx x (delay % 65)
def worst2 (n : Nat) (L' : List Int) (x : Int) : Int := if 0 < n then mx x (wrap64 (maxL L' + 1)) else x
/-- A cell of an untouched block. -/
theorem Frm.cell {S : Nat → Prop} {w w' : World} (h : Frm S w w') {p : Addr} {v : Value} (hv : w.cell? p = some v) (hs : ¬ S p.block) : w'.cell? p = some v :=
  (World.cell?_of_block (h.block _ (block_lt_of_cell hv) hs)).trans hv
def fairB (bad : Bool) (x k : Int) : Bool := !bad && decide (x ≤ k)
theorem mod_eq (i n : Int) (h1 : 1 ≤ n) (h2 : n ≤ 1000000) (h3 : -9223372036854775808 ≤ i) (h4 : i ≤ 9223372036854775807) :
  (wrap64 (i.tmod n + n)).tmod n = i % n := by
  have ha : -n < i.tmod n := by
    rcases Int.le_total 0 i with h | h
    · have := Int.tmod_nonneg n h; omega
    · have := Int.lt_tmod_of_pos i (show 0 < n by omega); omega
  have hb : i.tmod n < n := Int.tmod_lt_of_pos i (by omega)
  rw [IntWalk.wrap64_in _ ⟨by omega, by omega⟩]
  rw [Int.tmod_eq_emod_of_nonneg (by omega)]
  rw [Int.add_emod_right]
  rw [Int.emod_def i n, Int.emod_def (i.tmod n) n, Int.tmod_def]
  have : (i - n * i.tdiv n) / n = i / n - i.tdiv n := by
    rw [show i - n * i.tdiv n = i + n * (- i.tdiv n) by rw [Int.mul_neg]; omega]
    rw [Int.add_mul_ediv_left _ _ (by omega)]; omega
  rw [this, Int.mul_sub]; omega
theorem mod_any (i n : Int) (w : World) (h1 : 1 ≤ n) (h2 : n ≤ 1000000) (h3 : -9223372036854775808 ≤ i) (h4 : i ≤ 9223372036854775807) :
    Calls Try.prog 15 #[.int .i64 i, .int .i64 n] w fun e w' => e = .returned (.int .i64 (i % n)) ∧ w' = w := by
  have H := Lib.hid (mod_eq i n h1 h2 h3 h4)
  go_enter Try.func15, Try.ntmps15
  go_wp2
  go_ret
  exact ⟨by rw [← H.out]; rfl, rfl⟩
theorem mod_zero (i n : Int) (w : World) (h1 : n < 1)  :
    Calls Try.prog 15 #[.int .i64 i, .int .i64 n] w fun e w' => e = .returned (.int .i64 0) ∧ w' = w := by
  go_enter Try.func15, Try.ntmps15
  go_wp2
  go_ret
  exact ⟨rfl, rfl⟩
theorem new_any (k : Int) (w : World) (h1 : 1 ≤ k) (h2 : k ≤ 1000) :
    Calls Try.prog 7 #[.int .i64 k] w fun e w' => e = .returned (.pointer (some ⟨w.heap.size, 0, none⟩)) ∧ w' = w.alloc (.cells #[.int .i64 k, .slice none 0 0, .int .i64 1, .bool false] 44) := by
  go_enter Try.func7, Try.ntmps7
  go_wp2
  go_ret
  exact ⟨rfl, rfl⟩
theorem worst_any (b : Nat) (x : Int) (w : World) (h1 : w.cell? ⟨b, 2, none⟩ = some (.int .i64 x)) :
    Calls Try.prog 9 #[.pointer (some ⟨b, 0, none⟩)] w fun e w' => e = .returned (.int .i64 x) ∧ w' = w := by
  go_enter Try.func9, Try.ntmps9
  go_wp2
  go_ret
  exact ⟨rfl, rfl⟩
theorem fair_any (b : Nat) (k x : Int) (bad : Bool) (w : World) (h0 : w.cell? ⟨b, 0, none⟩ = some (.int .i64 k)) (h1 : w.cell? ⟨b, 2, none⟩ = some (.int .i64 x)) (h2 : w.cell? ⟨b, 3, none⟩ = some (.bool bad)) :
    Calls Try.prog 14 #[.pointer (some ⟨b, 0, none⟩)] w fun e w' => e = .returned (.bool (!bad && decide (x ≤ k))) ∧ ∃ n, w' = w.drewN n := by
  have hh : bad = false → decide (x ≤ k) = true ∨ decide (x ≤ k) = false := by intro _; cases decide (x ≤ k) <;> simp
  cases bad
  · go_enter Try.func14, Try.ntmps14
    go_wp2
    go_quiet (fail)
    go_wp2
    go_ret
    exact ⟨rfl, _, rfl⟩
  · go_enter Try.func14, Try.ntmps14
    go_wp2
    go_quiet (fail)
    go_wp2
    go_ret
    exact ⟨rfl, _, rfl⟩

theorem mod_Z (i : Int) (n : Nat) (w : World) (h2 : n ≤ 1000000) (h3 : -9223372036854775808 ≤ i) (h4 : i ≤ 9223372036854775807) :
    Calls Try.prog 15 #[.int .i64 i, .int .i64 n] w fun e w' => e = .returned (.int .i64 (modZ i n)) ∧ w' = w := by
  unfold modZ
  by_cases h : n = 0
  · rw [if_pos h]; exact mod_zero i n w (by omega)
  · rw [if_neg h]; exact mod_any i n w (by omega) (by omega) h3 h4
theorem mod_65 (i : Int) (w : World) (h3 : -9223372036854775808 ≤ i) (h4 : i ≤ 9223372036854775807) :
    Calls Try.prog 15 #[.int .i64 i, .int .i64 65] w fun e w' => e = .returned (.int .i64 (i % 65)) ∧ w' = w := mod_any i 65 w (by omega) (by omega) h3 h4
theorem row_len {w : World} {base : Nat} {e : TypeId} {size : Nat} {sg : Option Addr} {sl sc n : Nat} {xs : List Value} (h : w.ownsRow base e size (.slice sg sl sc) n xs) : sl = n ∧ n ≤ sc ∧ sc ≤ maxLen := by
  rcases h.2 with ⟨h1, h2⟩ | ⟨g, cap, cur, h1, _, _, h3, h4, _⟩
  · simp at h1; simp [h1, h2, maxLen]
  · simp at h1; obtain ⟨_, rfl, rfl⟩ := h1; exact ⟨rfl, h3, h4⟩
theorem wrap_eq (n : Int) : IntKind.i64.wrap n = wrap64 n := by unfold wrap64; exact IntKind.wrap_i64 n
theorem row_take {w : World} {base : Nat} {e : TypeId} {sg : Option Addr} {sl sc n m : Nat} {xs : List Value} (h : w.ownsRow base e 1 (.slice sg sl sc) n xs) (hm : m ≤ n) : w.ownsRow base e 1 (.slice sg m sc) m (xs.take m) := by
  obtain ⟨h1, h2⟩ := h
  refine ⟨by simp; omega, ?_⟩
  rcases h2 with ⟨h2, h3⟩ | ⟨g, cap, cur, h2, h3, h4, h5, h6, h7, h8⟩
  · simp at h2; left; simp [h2]; omega
  · simp only [Value.slice.injEq] at h2
    obtain ⟨rfl, _, rfl⟩ := h2
    right
    refine ⟨g, sc, cur, rfl, h3, h4, by omega, h6, h7, ?_⟩
    rw [← h8, List.take_take]; congr 1; omega
theorem row_frm {w w' : World} {S : Nat → Prop} {base : Nat} {e : TypeId} {size : Nat} {v : Value} {n : Nat} {xs : List Value} (h : w.ownsRow base e size v n xs) (hF : Frm S w w') (hS : ∀ k, v.ownBlock = some k → ¬ S k) : w'.ownsRow base e size v n xs := by
  refine ⟨h.1, ?_⟩
  rcases h.2 with h2 | ⟨g, cap, cur, rfl, h3, h4, r⟩
  · exact .inl h2
  · exact .inr ⟨g, cap, cur, rfl, h3, (hF.block g (lt_of_block h4) (hS g rfl)).trans h4, r⟩
theorem row_block {w : World} {base : Nat} {e : TypeId} {size : Nat} {v : Value} {n : Nat} {xs : List Value} (h : w.ownsRow base e size v n xs) {g : Nat} (hg : v.ownBlock = some g) : ∃ cur, w.heap[g]? = some (.cells cur e (0, 0)) ∧ base ≤ g := by
  rcases h.2 with ⟨rfl, h2⟩ | ⟨g', cap, cur, rfl, h1, h2, _⟩
  · simp [Value.ownBlock] at hg
  · simp [Value.ownBlock] at hg; subst hg; exact ⟨_, h2, h1⟩
theorem Wat.ne {w : World} {b : Nat} {k : Int} {sv : Value} {L : List Int} {x : Int} {bad : Bool} (h : Wat w b k sv L x bad) : sv.ownBlock ≠ some b := by
  intro e
  obtain ⟨cur, h1, _⟩ := row_block h.own e
  rw [h.blk] at h1
  simp at h1
theorem Wat.store {w : World} {b : Nat} {k : Int} {sv : Value} {x : Int} {bad : Bool} {g cap : Nat} (h : w.heap[b]? = some (.cells #[.int .i64 k, sv, .int .i64 x, .bool bad] 44 (0, 0)))
   (L' : List Int) (h2 : w.ownsRow 0 3 1 (.slice (some ⟨g, 0, none⟩) L'.length cap) L'.length (L'.map (Value.int .i64))) (hne : g ≠ b) :
    Wat (w.setCell ⟨b, 1, none⟩ (.slice (some ⟨g, 0, none⟩) L'.length cap)) b k (.slice (some ⟨g, 0, none⟩) L'.length cap) L' x bad :=
  ⟨by rw [heap_setCell_same _ b 1 _ _ _ h]; rfl, ownsRow_setCell_other h2 (by simp [Value.ownBlock]; omega) _⟩
theorem Wat.store2 {w : World} {b : Nat} {k : Int} {sv : Value} {L : List Int} {x : Int} {bad : Bool} (h : Wat w b k sv L x bad) (x' : Int) : Wat (w.setCell ⟨b, 2, none⟩ (.int .i64 x')) b k sv L x' bad :=
  ⟨by rw [heap_setCell_same _ b 2 _ _ _ h.blk]; rfl, ownsRow_setCell_other h.own h.ne _⟩
theorem Wat.drew {w : World} {b : Nat} {k : Int} {sv : Value} {L : List Int} {x : Int} {bad : Bool} (h : Wat w b k sv L x bad) : Wat w.drew b k sv L x bad := ⟨h.blk, h.own.drew⟩
theorem Wat.drewN {w : World} {b : Nat} {k : Int} {sv : Value} {L : List Int} {x : Int} {bad : Bool} (h : Wat w b k sv L x bad) (n : Nat) : Wat (w.drewN n) b k sv L x bad := ⟨h.blk, h.own⟩
theorem fair_wat {w : World} {b : Nat} {k : Int} {sv : Value} {L : List Int} {x : Int} {bad : Bool} (h : Wat w b k sv L x bad) :
    Calls Try.prog 14 #[.pointer (some ⟨b, 0, none⟩)] w fun e w' => e = .returned (.bool (fairB bad x k)) ∧ ∃ n, w' = w.drewN n :=
  fair_any b k x bad w (by rw [cell_of_row _ _ 0 _ _ _ h.blk]; rfl) (by rw [cell_of_row _ _ 2 _ _ _ h.blk]; rfl) (by rw [cell_of_row _ _ 3 _ _ _ h.blk]; rfl)
theorem worst_wat {w : World} {b : Nat} {k : Int} {sv : Value} {L : List Int} {x : Int} {bad : Bool} (h : Wat w b k sv L x bad) :
    Calls Try.prog 9 #[.pointer (some ⟨b, 0, none⟩)] w fun e w' => e = .returned (.int .i64 x) ∧ w' = w :=
  worst_any b x w (by rw [cell_of_row _ _ 2 _ _ _ h.blk]; rfl)
def StepRel (w : World) (b : Nat) (k x pick delay draw : Int) (bad : Bool) (sv : Value) (L : List Int) (wr : World) : Prop :=
  ∃ (sg' : Option Addr) (sl' sc' : Nat), Wat wr b k (.slice sg' sl' sc') L x bad ∧
       Frm (fun q => q = b ∨ Value.ownBlock sv = some q) w wr ∧ (∀ q, Value.ownBlock (.slice sg' sl' sc') = some q → Value.ownBlock sv = some q ∨ w.heap.size ≤ q) ∧
       wr.heap[w.heap.size]? = some (.cells #[.int .i64 pick, .int .i64 delay, .int .i64 draw] 30 (0, 0))
theorem StepRel.next {w wc : World} {b g cap i : Nat} {k x pick delay draw : Int} {bad : Bool} {sv : Value} {N L' : List Int} {v : Int} (h1 : N.set i v = L')
   (hW : Wat wc b k (.slice (some ⟨g, 0, none⟩) N.length cap) N x bad)
   (hF : Frm (fun q => q = b ∨ Value.ownBlock sv = some q) w wc) (hL : Value.ownBlock sv = some g ∨ w.heap.size ≤ g)
   (hX : wc.heap[w.heap.size]? = some (.cells #[.int .i64 pick, .int .i64 delay, .int .i64 draw] 30 (0, 0))) :
   StepRel w b k x pick delay draw bad sv L' (wc.setCell ⟨g, i, none⟩ (.int .i64 v)) := by
  have hgb : g ≠ b := fun e => hW.ne (by simp [Value.ownBlock, e])
  have hgx : g ≠ w.heap.size := by
    intro e
    obtain ⟨cur, h1, _⟩ := row_block hW.own (g := g) rfl
    rw [e, hX] at h1; simp at h1
  have hl : L'.length = N.length := by rw [← h1]; simp
  refine ⟨some ⟨g, 0, none⟩, N.length, cap, ⟨?_, ?_⟩, hF.setCell ?_ _, ?_, ?_⟩
  · rw [heap_setCell_other _ _ _ _ (by simp; omega)]; exact hW.blk
  · have := (hW.own.stored i (.int .i64 v)).1
    rw [← List.map_set, h1] at this
    rw [hl]; exact this
  · rcases hL with h | h
    · exact .inr (.inr h)
    · exact .inl h
  · intro q hq
    simp [Value.ownBlock] at hq; subst hq; exact hL
  · rw [heap_setCell_other _ _ _ _ (by simp; omega)]; exact hX
theorem Try.info3 : (Try.prog.info? 3).map (fun i => (i.zero, i.size, i.bytes)) = some (some (.int .i64 0), 1, 8) := by kernel_rfl
set_option maxRecDepth 100000 in
set_option maxHeartbeats 3000000 in
theorem step_any (b n pc : Nat) (pa : Option Addr) (pb po : Nat) (k x pick delay draw : Int) (bad : Bool) (sg : Option Addr) (sl sc : Nat) (L : List Int) (ps : List Bool) (w : World)
    (hw : Wat w b k (.slice sg sl sc) L x bad) (hps : ps.length = n) (hn : n ≤ 20)
    (hpa : 0 < n → pa = some ⟨pb, po, none⟩) (hpc : ∀ i, i < n → w.cell? ⟨pb, po + i, none⟩ = some (.bool (ps.getD i false)))
    (hd1 : pb ≠ b) (hd2 : Value.ownBlock (.slice sg sl sc) ≠ some pb)
    (d1 : -9223372036854775808 ≤ pick) (d2 : pick ≤ 9223372036854775807) (d3 : -9223372036854775808 ≤ delay) (d4 : delay ≤ 9223372036854775807) :
    Calls Try.prog 8 #[.pointer (some ⟨b, 0, none⟩), .slice pa n pc, .agg #[.int .i64 pick, .int .i64 delay, .int .i64 draw]] w fun e w' => e = .returned (.bool (fairB (bad || decide (n = 0)) (worst2 n (cntAll L ps (modZ pick n)) (worst1 x delay)) k)) ∧
      ∃ sv', Wat w' b k sv' (cntAll L ps (modZ pick n)) (worst2 n (cntAll L ps (modZ pick n)) (worst1 x delay)) (bad || decide (n = 0)) ∧ (∃ a l c, sv' = .slice a l c) ∧
       Frm (fun q => q = b ∨ Value.ownBlock (.slice sg sl sc) = some q) w w' ∧ (∀ q, Value.ownBlock sv' = some q → Value.ownBlock (.slice sg sl sc) = some q ∨ w.heap.size ≤ q) := by
  have hb := lt_of_block hw.blk
  go_enter Try.func8, Try.ntmps8
  go_wp2
  go_step3
  go_upto_if 14 with fail
  go_cut [] (fun w1 => w1.heap[b]? = some (.cells #[.int .i64 k, .slice sg sl sc, .int .i64 x, .bool (bad || decide (n = 0))] 44 (0, 0)) ∧ w1.heap[w.heap.size]? = some (.cells #[.int .i64 pick, .int .i64 delay, .int .i64 draw] 30 (0, 0)) ∧ Frm (· = b) w w1)
  case first =>
    have h3 : w.cell? ⟨b, 3, none⟩ = some (.bool bad) := by rw [cell_of_row w b 3 _ _ _ hw.blk]; rfl
    have hfz : w.frozen? ⟨b, 3, none⟩ = false := frozen_of_row w b 3 _ _ hw.blk
    go_wp2
    · have hz : n = 0 := by have h : ((n : Int) == 0) = true := by assumption
                            simpa using h
      go_meet
      case rel =>
        refine ⟨?_, ?_, ?_⟩
        · rw [heap_alloc_old _ _ (by simpa using hb), heap_setCell_same _ b 3 _ _ _ hw.blk]
          simp [hz]
        · have h := heap_alloc_new (w.setCell ⟨b, 3, none⟩ (.bool true)) (.cells #[.int .i64 pick, .int .i64 delay, .int .i64 draw] 30)
          simpa using h
        · exact ((Frm.refl (· = b) w).setCell (p := ⟨b, 3, none⟩) (.inr rfl) _).alloc _
    · have hz : ¬ n = 0 := by have h : ((n : Int) == 0) = false := by assumption
                              simpa using h
      go_meet
      case rel =>
        refine ⟨?_, heap_alloc_new _ _, (Frm.refl _ _).alloc _⟩
        rw [heap_alloc_old w _ hb, hw.blk]
        simp [hz]
  case rest =>
    obtain ⟨hb1, hx1, hf1⟩ := hcut
    have c5 : wc.cell? ⟨w.heap.size, 0, none⟩ = some (.int .i64 pick) := by rw [cell_of_row _ _ 0 _ _ _ hx1]; rfl
    go_wp2_with (go_at_call 15; refine (mod_Z _ _ _ (by omega) d1 d2).mono ?_; rintro e w' ⟨rfl, rfl⟩)
    have c1 : w'.cell? ⟨b, 1, none⟩ = some (.slice sg sl sc) := by rw [cell_of_row _ _ 1 _ _ _ hb1]; rfl
    have fr1 : w'.frozen? ⟨b, 1, none⟩ = false := frozen_of_row _ _ 1 _ _ hb1
    obtain ⟨hsl, hsc, hsm⟩ := row_len hw.own
    unfold maxLen at hsm
    obtain ⟨m, hm1, hm2, hm3, HM⟩ : ∃ m : Nat, m ≤ n ∧ m ≤ L.length ∧ (if n < L.length then (n : Int) else (L.length : Int)) = (m : Int) ∧ Hid (m = min n L.length) :=
      ⟨min n L.length, Nat.min_le_left _ _, Nat.min_le_right _ _, by split <;> omega, rfl⟩
    have hmc : (m : Int) ≤ (sc : Int) := by omega
    have hm0 : (0 : Int) ≤ (m : Int) := by omega
    go_still_tail 16, (by kernel_rfl)
    change wpList _ _ _ _ _ (World.drew _)
    go_wp2
    go_step3
    go_wp2_with fail
    go_loopw [41] (fun s41 wr => ∃ i : Nat, i ≤ n ∧ s41 = .int .i64 i ∧ StepRel w b k x pick delay draw (bad || decide (n = 0)) (.slice sg sl sc) (upTo (L.take n) ps (modZ pick n) i) wr)
      (fun s41 _ => n - (intOf s41).toNat)
    case atStart =>
      refine ⟨0, Nat.zero_le _, rfl, sg, m, sc, ⟨?_, ?_⟩, ?_, fun q hq => .inl ?_, ?_⟩
      · show (w'.setCell ⟨b, 1, none⟩ _).heap[b]? = _
        rw [heap_setCell_same _ b 1 _ _ _ hb1]; rfl
      · rw [upTo_zero, List.length_take]
        have e1 : min n L.length = m := HM.out.symm
        rw [e1]
        have hr := row_take (row_frm hw.own hf1 (fun q hq e => hw.ne (e ▸ hq))) hm2
        rw [← List.map_take] at hr
        rw [show L.take n = L.take m by rw [← e1, ← List.take_eq_take_min]]
        show (w'.setCell ⟨b, 1, none⟩ _).ownsRow _ _ _ _ _ _
        refine ownsRow_setCell_other hr ?_ _
        have := hw.ne
        cases sg <;> simp_all [Value.ownBlock]
      · exact ((hf1.trans (Frm.refl (fun _ => False) w') (fun _ _ h => h.elim)).mono' (fun q hq => .inl hq)).setCell (p := ⟨b, 1, none⟩) (.inr (.inl rfl)) _ |>.drew
      · cases sg <;> simp_all [Value.ownBlock]
      · show (w'.setCell ⟨b, 1, none⟩ _).heap[w.heap.size]? = _
        rw [heap_setCell_other _ _ _ _ (by simp; omega)]; exact hx1
    case round =>
      obtain ⟨i, hi, rfl, sg', sl', sc', hW, hF, hL, hX⟩ := hrel
      by_cases hlt : i < n
      · obtain rfl := hpa (by omega)
        have hpb : wr.cell? ⟨pb, po + i, none⟩ = some (.bool (ps.getD i false)) := hF.cell (hpc i hlt) (by rintro (h | h); exact hd1 h; exact hd2 h)
        obtain ⟨pp, hpp⟩ : ∃ pp, pp = ps.getD i false := ⟨_, rfl⟩
        rw [← hpp] at hpb
        have HPP : Hid (pp = ps.getD i false) := hpp
        clear hpp
        have hii : (i : Int) < (n : Int) := by omega
        obtain ⟨M, hM⟩ : ∃ M, M = upTo (L.take n) ps (modZ pick n) i := ⟨_, rfl⟩
        rw [← hM] at hW
        have HM' : Hid (M = upTo (L.take n) ps (modZ pick n) i) := hM
        have hMl : i ≤ M.length := by rw [hM, upTo_len]; omega
        have hMl2 : M.length ≤ 20 := by rw [hM, upTo_len, List.length_take]; omega
        clear hM
        obtain ⟨hsl', hsc', hsm'⟩ := row_len hW.own
        subst hsl'
        unfold maxLen at hsm'
        have c1' : wr.cell? ⟨b, 1, none⟩ = some (.slice sg' M.length sc') := by rw [cell_of_row _ _ 1 _ _ _ hW.blk]; rfl
        go_upto_if 52 with fail
        go_cut [] (fun wc => ∃ (g cap : Nat) (N : List Int), i < N.length ∧ Hid (N.set i (cnt (L.take n) ps (modZ pick n) i) = upTo (L.take n) ps (modZ pick n) (i + 1)) ∧ Hid (N.getD i 0 = (L.take n).getD i 0) ∧
            Wat wc b k (.slice (some ⟨g, 0, none⟩) N.length cap) N x (bad || decide (n = 0)) ∧
            Frm (fun q => q = b ∨ Value.ownBlock (.slice sg sl sc) = some q) w wc ∧ (Value.ownBlock (.slice sg sl sc) = some g ∨ w.heap.size ≤ g) ∧
            wc.heap[w.heap.size]? = some (.cells #[.int .i64 pick, .int .i64 delay, .int .i64 draw] 30 (0, 0)))
        case first =>
          have c1f : wr.frozen? ⟨b, 1, none⟩ = false := frozen_of_row _ _ 1 _ _ hW.blk
          by_cases hil : i = M.length
          · have hil1 : ((i : Int) == (M.length : Int)) = true := by simp; omega
            have HIL := Lib.hid hil
            clear hil
            obtain ⟨i0, hi0, hz0, hz1, hz2⟩ := info_parts Try.info3
            go_wp2_with (at_builtin; refine wpList_append_lies _ rfl _ _ 42 rfl 0 3 i0 (.int .i64 0) 1 8 Try.underlying42 hi0 hz0 hz1 hz2 rfl (by decide) _ _ _ rfl (hW.own.alloc _) ⟨wr.heap.size, 0, none⟩ 1 1 [.int .i64 0] rfl rfl ?c1 ?c2 (by decide) ?c3 ?c4 (by omega) (wr.heap.size + 1) ?c5 ?_)
            case c2 => rfl
            case c3 => unfold maxLen; omega
            case c4 => omega
            intro g cap w1 hown1 hgr hat hlt1
            have hblt := lt_of_block hW.blk
            have hb1' : w1.heap[b]? = some (.cells #[.int .i64 k, .slice sg' M.length sc', .int .i64 x, .bool (bad || decide (n = 0))] 44 (0, 0)) := by
              rw [hgr.block b (by simp; omega) (Ne.symm hW.ne), heap_alloc_old _ _ hblt]; exact hW.blk
            have c1'' : w1.cell? ⟨b, 1, none⟩ = some (.slice sg' M.length sc') := by rw [cell_of_row _ _ 1 _ _ _ hb1']; rfl
            have c1f' : w1.frozen? ⟨b, 1, none⟩ = false := frozen_of_row _ _ 1 _ _ hb1'
            clear hil1
            go_wp2
            go_meet
            case rel =>
              have hgb : g ≠ b := by
                intro e; subst e
                obtain ⟨cur, h1, _⟩ := row_block hown1 (g := g) rfl
                rw [hb1'] at h1; simp at h1
              have hl : (M ++ [(0 : Int)]).length = M.length + 1 := by simp
              refine ⟨g, cap, M ++ [0], by rw [hl]; omega, ?_, ?_, ?_, ?_, ?_, ?_⟩
              · have := HIL.out; have h2 := HM'.out
                show (M ++ [0]).set i _ = _
                rw [h2]; exact upTo_push _ _ _ _ (by rw [h2, upTo_len] at this; omega)
              · have h2 := HM'.out
                have h3 := HIL.out
                show (M ++ [0]).getD i 0 = _
                rw [h2]; exact upTo_hit' _ _ _ _ (by rw [← h2]; exact h3)
              · rw [hl]
                have := Wat.store (cap := cap) hb1' (M ++ [0]) (by rw [hl]; simpa using hown1) hgb
                rw [hl] at this
                exact this
              · refine ((hF.alloc _).grown hgr ?_).setCell (.inr (.inl rfl)) _
                intro q hq
                rcases hL q hq with h | h
                · exact .inr (.inr h)
                · exact .inl h
              · rcases hat with h | h
                · exact hL g h
                · right; have := hF.size; omega
              · rw [heap_setCell_other _ _ _ _ (by simp; omega), hgr.block _ (by have := lt_of_block hX; simp; omega) ?_, heap_alloc_old _ _ (lt_of_block hX)]
                · exact hX
                · intro e
                  obtain ⟨cur, h1, _⟩ := row_block hW.own e.symm
                  rw [hX] at h1; simp at h1
          · have hil1 : ((i : Int) == (M.length : Int)) = false := by simp; omega
            obtain ⟨g, cap, he, _, _⟩ := hW.own.form (by omega)
            simp only [Value.slice.injEq, true_and] at he
            obtain ⟨rfl, rfl⟩ := he
            have HIL := Lib.hid hil
            clear hil
            go_wp2
            go_meet
            case rel =>
              have hil := HIL.out
              have h2 := HM'.out
              refine ⟨g, sc', M, by omega, ?_, ?_, hW, hF, hL g rfl, hX⟩
              · show M.set i _ = _
                rw [h2]; exact upTo_setM _ _ _ _ (by rw [h2] at hil hMl; omega)
              · show M.getD i 0 = _
                rw [h2]; exact upTo_hit _ _ _ _
        case rest =>
          obtain ⟨g, cap, N, hiN, HN1, HN2, hWc, hFc, hLc, hXc⟩ := hcut
          have hnb : g ≠ b := fun e => hWc.ne (by simp [Value.ownBlock, e])
          have cc1 : wc.cell? ⟨b, 1, none⟩ = some (.slice (some ⟨g, 0, none⟩) N.length cap) := by rw [cell_of_row _ _ 1 _ _ _ hWc.blk]; rfl
          have hi0 : (0 : Int) ≤ (i : Int) := by omega
          have hi1 : (i : Int) < (N.length : Int) := by omega
          obtain ⟨nv, hnv⟩ : ∃ nv, nv = N.getD i 0 := ⟨_, rfl⟩
          have cr : wc.cell? ⟨g, i, none⟩ = some (.int .i64 nv) := by
            rw [hWc.own.cellAt i (by omega)]; simp [hnv, List.getD, List.getElem?_eq_getElem hiN]
          have HNV := Lib.hid hnv
          clear hnv
          have frz : wc.frozen? ⟨g, i, none⟩ = false := hWc.own.frozenAt i
          clear hsm' hsc' c1'
          cases pp
          · by_cases hat : (i : Int) = modZ pick n
            · have hat1 : ((i : Int) == modZ pick n) = true := by simpa using hat
              have HAT := Lib.hid hat
              clear hat
              go_wp2
              go_roundw
              case rel =>
                refine ⟨i + 1, by omega, by go_num, StepRel.next (N := N) (v := 0) ?_ hWc hFc hLc hXc⟩
                rw [← HN1.out, cnt, if_pos (.inr HAT.out)]
              case measure => simp [intOf]; omega
            · have hat1 : ((i : Int) == modZ pick n) = false := by simpa using hat
              go_wp2
              go_roundw
              case rel =>
                refine ⟨i + 1, by omega, by go_num, StepRel.next (N := N) (v := wrap64 (nv + 1)) ?_ hWc hFc hLc hXc⟩
                rw [← HN1.out, cnt, if_neg, HNV.out, HN2.out]
                rintro (h | h)
                · rw [← HPP.out] at h; cases h
                · exact hat h
              case measure => simp [intOf]; omega
          · go_wp2
            go_roundw
            case rel =>
              refine ⟨i + 1, by omega, by go_num, StepRel.next (N := N) (v := 0) ?_ hWc hFc hLc hXc⟩
              rw [← HN1.out, cnt, if_pos (.inl HPP.out.symm)]
            case measure => simp [intOf]; omega
      · obtain rfl : i = n := by omega
        obtain ⟨LL, hLL⟩ : ∃ LL, LL = cntAll L ps (modZ pick i) := ⟨_, rfl⟩
        have hLn : LL.length = i := by rw [hLL, cntAll, upTo_len, hps, List.length_take]; omega
        have hW' : Wat wr b k (.slice sg' sl' sc') LL x (bad || decide (i = 0)) := by rw [hLL, cntAll, hps]; exact hW
        have HLL := Lib.hid hLL
        clear hLL hW
        obtain ⟨hsl', hsc', hsm'⟩ := row_len hW'.own
        subst hsl'
        have c2' : wr.cell? ⟨b, 2, none⟩ = some (.int .i64 x) := by rw [cell_of_row _ _ 2 _ _ _ hW'.blk]; rfl
        have f2' : wr.frozen? ⟨b, 2, none⟩ = false := frozen_of_row _ _ 2 _ _ hW'.blk
        have cx : wr.cell? ⟨w.heap.size, 1, none⟩ = some (.int .i64 delay) := by rw [cell_of_row _ _ 1 _ _ _ hX]; rfl
        have c1' : wr.cell? ⟨b, 1, none⟩ = some (.slice sg' LL.length sc') := by rw [cell_of_row _ _ 1 _ _ _ hW'.blk]; rfl
        obtain ⟨x1, hx1, HX1⟩ : ∃ x1, (if x < delay % 65 then delay % 65 else x) = x1 ∧ Hid (x1 = worst1 x delay) := ⟨_, rfl, rfl⟩
        go_wp2_with fail
        go_still_tail 11, (by kernel_rfl)
        still_call (mod_65 _ _ d3 d4)
        repeat still_step
        refine wpStill_nil ?_
        change wpList _ _ _ _ _ (World.drew _)
        clear hx1
        go_upto_region 17 with fail
        have hW1 := (hW'.store2 x1).drew
        have hF1 := (hF.setCell (p := ⟨b, 2, none⟩) (.inr (.inl rfl)) (.int .i64 x1)).drew
        generalize (wr.setCell ⟨b, 2, none⟩ (.int .i64 x1)).drew = w2 at *
        clear c1' cx c2' f2'
        have c1' : w2.cell? ⟨b, 1, none⟩ = some (.slice sg' LL.length sc') := by rw [cell_of_row _ _ 1 _ _ _ hW1.blk]; rfl
        have c2' : w2.cell? ⟨b, 2, none⟩ = some (.int .i64 x1) := by rw [cell_of_row _ _ 2 _ _ _ hW1.blk]; rfl
        have f2' : w2.frozen? ⟨b, 2, none⟩ = false := frozen_of_row _ _ 2 _ _ hW1.blk
        have HLN := Lib.hid hLn
        by_cases hi0 : 0 < i
        · obtain ⟨g, cap, he, _, _⟩ := hW1.own.form (by omega)
          simp only [Value.slice.injEq, true_and] at he
          obtain ⟨rfl, rfl⟩ := he
          have HCM : Hid (∀ j, j < i → w2.drew.cell? ⟨g, j, none⟩ = some (.int .i64 (LL.getD j 0))) := fun j hj => by
            show w2.cell? ⟨g, j, none⟩ = _
            have hj' : j < LL.length := by have := HLN.out; omega
            rw [hW1.own.cellAt j (by omega)]; simp [List.getD, List.getElem?_eq_getElem hj']
          obtain ⟨x2, hx2, HX2⟩ : ∃ x2, (if x1 < IntKind.i64.wrap (maxL LL + 1) then IntKind.i64.wrap (maxL LL + 1) else x1) = x2 ∧ Hid (x2 = worst2 i LL (worst1 x delay)) := ⟨_, rfl, by show _ = _; rw [worst2, if_pos hi0, ← HX1.out, mx]; rw [show IntKind.i64.wrap (maxL LL + 1) = wrap64 (maxL LL + 1) from wrap_eq _]⟩
          have hi00 : (0 : Int) < (i : Int) := by omega
          go_wp2_with fail
          go_still_tail 12, (by kernel_rfl)
          still_call (max_any g i sc' LL _ HLN.out (by omega) (by omega) (by exact HCM))
          repeat still_step
          refine wpStill_nil ?_
          change wpList _ _ _ _ _ (World.drew _)
          clear hx2
          go_upto_region 19 with fail
          have hW2 := (hW1.store2 x2).drew
          have hF2 := (hF1.setCell (p := ⟨b, 2, none⟩) (.inr (.inl rfl)) (.int .i64 x2)).drew
          generalize (w2.setCell ⟨b, 2, none⟩ (.int .i64 x2)).drew = w3 at *
          go_wp2_with (go_at_call 14; refine (fair_wat hW2).mono ?_; rintro e w' ⟨rfl, nn, rfl⟩)
          simp only [Exit.noGoto_ret]
          go_ret
          have hLLe := HLL.out
          have hx2e := HX2.out
          refine ⟨?_, _, ?_, ⟨_, _, _, rfl⟩, hF2.drewN nn, hL⟩
          · rw [← hLLe, ← hx2e]; rfl
          · rw [← hLLe, ← hx2e]
            exact hW2.drewN nn
        · go_wp2_with (go_at_call 14; refine (fair_wat hW1).mono ?_; rintro e w' ⟨rfl, nn, rfl⟩)
          simp only [Exit.noGoto_ret]
          go_ret
          have hLLe := HLL.out
          have hx1e := HX1.out
          refine ⟨?_, _, ?_, ⟨_, _, _, rfl⟩, hF1.drewN nn, hL⟩
          · rw [worst2, if_neg hi0, ← hx1e]; rfl
          · rw [← hLLe, worst2, if_neg hi0, ← hx1e]
            exact hW1.drewN nn
end Go.Proofs.Ytfcoigcenheefaa
