/-
  Plain laws on worlds, owned rows and lists in memory, for the walks of this seat. They hold for every program and every world.
-/
import Derived.WalkKit
import Derived.WalkSpells
import Derived.WalkLawsBesides
import Derived.Lib.Hide
import Derived.Deep.QuietTactic
import Derived.BigQuiet
import Derived.BigRegion
import Derived.StillTailTactics
import Derived.Deep.AppendLies
import Derived.Deep.RegionHeld3
import Derived.Deep.RegionLaw
import Derived.Deep.DeepCutAuto
import Derived.Deep.CutBlock
import Derived.Deep.LoopGhost
import Derived.Lib.BufferRead
set_option linter.unusedVariables false
set_option linter.unusedSimpArgs false
namespace Go.Proofs.YtfcoigcenheefaaDoor
open Go.RowKit

/-- All blocks but those of S stay. -/
structure Frm (S : Nat → Prop) (w w' : World) : Prop where
  os : w'.os = w.os
  tape : w'.tape = w.tape
  output : w'.output = w.output
  size : w.heap.size ≤ w'.heap.size
  block : ∀ k, k < w.heap.size → ¬ S k → w'.heap[k]? = w.heap[k]?
theorem Frm.refl (S : Nat → Prop) (w : World) : Frm S w w := ⟨rfl, rfl, rfl, Nat.le_refl _, fun _ _ _ => rfl⟩
theorem Frm.drew {S : Nat → Prop} {a w : World} (h : Frm S a w) : Frm S a w.drew := ⟨h.os, h.tape, h.output, h.size, h.block⟩
theorem Frm.drewN {S : Nat → Prop} {a w : World} (h : Frm S a w) (n : Nat) : Frm S a (w.drewN n) := ⟨h.os, h.tape, h.output, h.size, h.block⟩
theorem Frm.alloc {S : Nat → Prop} {a w : World} (h : Frm S a w) (o : Obj) : Frm S a (w.alloc o) :=
  ⟨h.os, h.tape, h.output, by have := h.size; simp; omega, fun k hk hs => by rw [heap_alloc_old w o (by have := h.size; omega)]; exact h.block k hk hs⟩
theorem Frm.setCell {S : Nat → Prop} {a w : World} (h : Frm S a w) {p : Addr} (hp : a.heap.size ≤ p.block ∨ S p.block) (u : Value) : Frm S a (w.setCell p u) :=
  ⟨h.os, h.tape, h.output, by simpa using h.size, fun k hk hs => by
    rw [heap_setCell_other w p k u (fun e => by subst e; rcases hp with hp | hp; omega; exact hs hp)]; exact h.block k hk hs⟩
theorem Frm.trans {S T : Nat → Prop} {a b c : World} (h : Frm S a b) (k : Frm T b c) (hT : ∀ i, i < a.heap.size → T i → S i) : Frm S a c :=
  ⟨k.os.trans h.os, k.tape.trans h.tape, k.output.trans h.output, Nat.le_trans h.size k.size, fun i hi hs => (k.block i (Nat.lt_of_lt_of_le hi h.size) (fun ht => hs (hT i hi ht))).trans (h.block i hi hs)⟩
theorem Frm.grown {S : Nat → Prop} {a w w' : World} {row : Option Nat} (h : Frm S a w) (hg : w.grownBy w' row) (hr : ∀ k, row = some k → a.heap.size ≤ k ∨ S k) : Frm S a w' :=
  ⟨hg.os.trans h.os, hg.tape.trans h.tape, hg.output.trans h.output, Nat.le_trans h.size hg.size, fun k hk hs => by
    rw [hg.block k (by have := h.size; omega) (fun e => by rcases hr k e.symm with h' | h'; omega; exact hs h')]; exact h.block k hk hs⟩
theorem Frm.mono' {S T : Nat → Prop} {w w' : World} (h : Frm S w w') (hT : ∀ k, S k → T k) : Frm T w w' := ⟨h.os, h.tape, h.output, h.size, fun k hk hs => h.block k hk (fun e => hs (hT k e))⟩
theorem Frm.below {S : Nat → Prop} {w w' : World} (h : Frm S w w') {B : Nat} (hB : B ≤ w.heap.size) (hS : ∀ k, S k → B ≤ k) : Below B w w' :=
  ⟨h.os, h.tape, h.output, h.size, fun k hk => h.block k (by omega) (fun hs => by have := hS k hs; omega)⟩
theorem Frm.of_below {B : Nat} {w w' : World} (h : Below B w w') : Frm (fun q => B ≤ q) w w' := ⟨h.os, h.tape, h.output, h.size, fun k _ hs => h.block k (by omega)⟩
theorem Frm.cell {S : Nat → Prop} {w w' : World} (h : Frm S w w') {p : Addr} {v : Value} (hv : w.cell? p = some v) (hs : ¬ S p.block) : w'.cell? p = some v :=
  (World.cell?_of_block (h.block _ (block_lt_of_cell hv) hs)).trans hv

theorem below_pre {B : Nat} {w w' : World} (h : Below B w.drew w') : Below B w w' := ⟨h.os, h.tape, h.output, h.size, h.block⟩
theorem below_drewN (B : Nat) (w : World) (n : Nat) : Below B w (w.drewN n) := ⟨rfl, rfl, rfl, Nat.le_refl _, fun _ _ => rfl⟩
theorem below_preN {B : Nat} {w w' : World} {n : Nat} (h : Below B (w.drewN n) w') : Below B w w' := ⟨h.os, h.tape, h.output, h.size, h.block⟩
theorem below_cell {B : Nat} {w w' : World} (h : Below B w w') {p : Addr} {v : Value} (hB : w.heap.size ≤ B) (hv : w.cell? p = some v) : w'.cell? p = some v :=
  (h.cell (by have := block_lt_of_cell hv; omega)).trans hv

theorem row_len {w : World} {base : Nat} {e : TypeId} {size : Nat} {sg : Option Addr} {sl sc n : Nat} {xs : List Value} (h : w.ownsRow base e size (.slice sg sl sc) n xs) : sl = n ∧ n ≤ sc ∧ sc ≤ maxLen := by
  rcases h.2 with ⟨h1, h2⟩ | ⟨g, cap, cur, h1, _, _, h3, h4, _⟩
  · simp at h1; simp [h1, h2, maxLen]
  · simp at h1; obtain ⟨_, rfl, rfl⟩ := h1; exact ⟨rfl, h3, h4⟩
theorem row_form {w : World} {base : Nat} {e : TypeId} {size : Nat} {v : Value} {n : Nat} {xs : List Value} (h : w.ownsRow base e size v n xs) : ∃ a c, v = .slice a n c := by
  rcases h.2 with ⟨h1, h2⟩ | ⟨g, cap, cur, h1, _⟩
  · exact ⟨_, _, by rw [h2]; exact h1⟩
  · exact ⟨_, _, h1⟩
theorem row_block {w : World} {base : Nat} {e : TypeId} {size : Nat} {v : Value} {n : Nat} {xs : List Value} (h : w.ownsRow base e size v n xs) {g : Nat} (hg : v.ownBlock = some g) : ∃ cur, w.heap[g]? = some (.cells cur e (0, 0)) ∧ base ≤ g := by
  rcases h.2 with ⟨rfl, h2⟩ | ⟨g', cap, cur, rfl, h1, h2, _⟩
  · simp [Value.ownBlock] at hg
  · simp [Value.ownBlock] at hg; subst hg; exact ⟨_, h2, h1⟩
theorem lt_of_own {w : World} {base : Nat} {e : TypeId} {size : Nat} {v : Value} {n : Nat} {xs : List Value} (h : w.ownsRow base e size v n xs) {g : Nat} (hg : v.ownBlock = some g) : g < w.heap.size := by
  obtain ⟨cur, h1, _⟩ := row_block h hg
  exact lt_of_block h1
theorem row_frm {w w' : World} {S : Nat → Prop} {base : Nat} {e : TypeId} {size : Nat} {v : Value} {n : Nat} {xs : List Value} (h : w.ownsRow base e size v n xs) (hF : Frm S w w') (hS : ∀ k, v.ownBlock = some k → ¬ S k) : w'.ownsRow base e size v n xs := by
  refine ⟨h.1, ?_⟩
  rcases h.2 with h2 | ⟨g, cap, cur, rfl, h3, h4, r⟩
  · exact .inl h2
  · exact .inr ⟨g, cap, cur, rfl, h3, (hF.block g (lt_of_block h4) (hS g rfl)).trans h4, r⟩
theorem row_below {w w' : World} {B base : Nat} {e : TypeId} {size : Nat} {v : Value} {n : Nat} {xs : List Value} (h : w.ownsRow base e size v n xs) (hF : Below B w w') (hB : w.heap.size ≤ B) : w'.ownsRow base e size v n xs :=
  row_frm h (Frm.of_below hF) (fun k hk e => by have := lt_of_own h hk; omega)
theorem row_base {w : World} {base base' : Nat} {e : TypeId} {size : Nat} {v : Value} {n : Nat} {xs : List Value} (h : w.ownsRow base e size v n xs) (hb : base' ≤ base) : w.ownsRow base' e size v n xs := by
  refine ⟨h.1, ?_⟩
  rcases h.2 with h2 | ⟨g, cap, cur, h1, h3, r⟩
  · exact .inl h2
  · exact .inr ⟨g, cap, cur, h1, by omega, r⟩
theorem row_drewN {w : World} {base : Nat} {e : TypeId} {size : Nat} {v : Value} {n : Nat} {xs : List Value} (h : w.ownsRow base e size v n xs) (k : Nat) : (w.drewN k).ownsRow base e size v n xs := h
theorem wrap_eq (n : Int) : IntKind.i64.wrap n = wrap64 n := by unfold wrap64; exact IntKind.wrap_i64 n

/-- A list of one-cell elements, behind a slice. -/
def ListAt {α : Type} (f : α → Value) (d : α) (w : World) (v : Value) (xs : List α) : Prop :=
  ∃ a cap, v = .slice a xs.length cap ∧ (0 < xs.length → ∃ b o, a = some ⟨b, o, none⟩ ∧ ∀ i, i < xs.length → w.cell? ⟨b, o + i, none⟩ = some (f (xs.getD i d)))
theorem ListAt.of_row {α : Type} {f : α → Value} {d : α} {w : World} {base : Nat} {e : TypeId} {v : Value} {xs : List α} (h : w.ownsRow base e 1 v xs.length (xs.map f)) : ListAt f d w v xs := by
  obtain ⟨a, c, rfl⟩ := row_form h
  refine ⟨a, c, rfl, fun h0 => ?_⟩
  obtain ⟨g, c', h1, _, _⟩ := h.form h0
  simp at h1
  obtain ⟨rfl, rfl⟩ := h1
  refine ⟨g, 0, rfl, fun i hi => ?_⟩
  rw [Nat.zero_add, h.cellAt i (by omega)]
  simp [List.getD, hi]
theorem ListAt.drewN {α : Type} {f : α → Value} {d : α} {w : World} {v : Value} {xs : List α} (h : ListAt f d w v xs) (n : Nat) : ListAt f d (w.drewN n) v xs := h
theorem ListAt.below {α : Type} {f : α → Value} {d : α} {w w' : World} {B : Nat} {v : Value} {xs : List α} (h : ListAt f d w v xs) (hb : Below B w w') (hB : w.heap.size ≤ B) : ListAt f d w' v xs := by
  obtain ⟨a, c, h1, h2⟩ := h
  refine ⟨a, c, h1, fun h0 => ?_⟩
  obtain ⟨b, o, h3, h4⟩ := h2 h0
  exact ⟨b, o, h3, fun i hi => below_cell hb hB (h4 i hi)⟩

/-- Are two lists the same behind k places? -/
def sameTo {α : Type} [DecidableEq α] (d : α) (xs ys : List α) (k : Nat) : Bool := (List.range k).all fun i => decide (xs.getD i d = ys.getD i d)
theorem sameTo_succ {α : Type} [DecidableEq α] (d : α) (xs ys : List α) (k : Nat) : sameTo d xs ys (k + 1) = (sameTo d xs ys k && decide (xs.getD k d = ys.getD k d)) := by
  unfold sameTo; rw [List.range_succ, List.all_append]; simp
theorem sameTo_eq {α : Type} [DecidableEq α] (d : α) (xs ys : List α) (hl : xs.length = ys.length) : sameTo d xs ys xs.length = decide (xs = ys) := by
  rw [Bool.eq_iff_iff]
  simp only [sameTo, List.all_eq_true, List.mem_range, decide_eq_true_eq]
  constructor
  · intro h
    apply List.ext_getElem hl
    intro i h1 h2
    have := h i h1
    simpa [List.getD, h1, h2] using this
  · rintro rfl i _; rfl
theorem sameTo_false {α : Type} [DecidableEq α] (d : α) (xs ys : List α) (hl : xs.length = ys.length) (k : Nat) (hk : k < xs.length) (h : xs.getD k d ≠ ys.getD k d) : decide (xs = ys) = false := by
  simp only [decide_eq_false_iff_not]
  rintro rfl; exact h rfl
theorem news_of (w : World) (us : List Value) (e : TypeId) : ∀ (j : Nat) (u : Value), us[j]? = some u → (w.alloc (.cells us.toArray e)).cell? ((⟨w.heap.size, 0, none⟩ : Addr).add j) = some u := by
  have q := World.news_of_block (w := w.alloc (.cells us.toArray e)) (heap_alloc_new w (.cells us.toArray e))
  simpa using q
/-- append of one element, laid in a block of its own the moment before, to a row of the call's own. -/
theorem wpList_app {P : Program} {ops : Array Oper} {rest : List Oper} {o : Oper} {a : Act} {Q : Exit → Act → World → Prop} (w : World) (e : TypeId) (us : List Value) (hgd : o.guard = none) (s x : Operand) (t : TypeId)
    (ho : o.op = .call { callee := .builtin .append, args := #[s, x], argTypes := #[t, t] })
    (base : Nat) (z : Value) (size bytes : Nat) (ht : P.underlying t = some (.slice e)) (hinfo : (P.info? e).map (fun i => (i.zero, i.size, i.bytes)) = some (some z, size, bytes)) (hzs : z.cells.size = size) (hsz : 0 < size)
    (v : Value) (n : Nat) (xs : List Value) (hs : a.eval s = v) (hown : w.ownsRow base e size v n xs)
    (H : Nat) (hx : a.eval x = .slice (some ⟨H, 0, none⟩) 1 1) (hH : w.heap.size = H) (hl : us.length = size) (h1 : (us.all fun u => u.oneCell') = true)
    (hn : n ≤ 1000000) (hb : bytes ≤ 10000) (hbase : base ≤ w.heap.size) (B : Nat) (w0 : World) (hbel : Below B w0 w) (hB : B ≤ base)
    (h : ∀ g cap w', w'.ownsRow base e size (.slice (some ⟨g, 0, none⟩) (n + 1) cap) (n + 1) (xs ++ us) → Below B w0 w' → (w.alloc (.cells us.toArray e)).grownBy w' v.ownBlock → (v.ownBlock = some g ∨ g = w.heap.size + 1) → wpList P ops Q rest (a.put o.dst (.slice (some ⟨g, 0, none⟩) (n + 1) cap)) w') :
    wpList P ops Q (o :: rest) a (w.alloc (.cells us.toArray e)) := by
  obtain ⟨i, hi, hz, hsize, hby⟩ := info_parts hinfo
  refine wpList_append_lies _ hgd s x t ho base e i z size bytes ht hi hz hsize hby hzs hsz v n xs hs (hown.alloc _) ⟨w.heap.size, 0, none⟩ 1 1 us (by rw [hH]; exact hx) (by rw [hl, Nat.one_mul]) (news_of w us e) (by simpa using h1) (by omega) (by unfold maxLen; omega) ?_ (by simp; omega) (w.heap.size + 1) (by simp) ?_
  · have : (n + 1) * bytes ≤ 1000001 * 10000 := Nat.mul_le_mul (by omega) hb
    omega
  · intro g cap w' q1 q2 q3 q4
    exact h g cap w' q1 ((hbel.alloc (by omega) _).grown q2 (by simp; omega) (fun k hk => by
      obtain ⟨_, _, q⟩ := row_block hown hk
      omega)) q2 q3
def u8v (c : UInt8) : Value := .int .u8 c.toNat
theorem u8_back (l : List UInt8) : (l.map u8v) = (l.map fun c => (c.toNat : Int)).map (Value.int .u8) := by simp [u8v]
/-- string(b), b a row of the call's own. -/
theorem run_string_row {P : Program} {w : World} {base : Nat} {src dst e : TypeId} {v : Value} {n : Nat} {l : List UInt8} (hs : P.underlying src = some (.slice e)) (he : P.underlying e = some (.int .u8)) (hd : P.underlying dst = some .string)
    (h : w.ownsRow base e 1 v n (l.map u8v)) : (convert src dst v).run P w = .ok (.string ⟨l.toArray⟩) w := by
  rcases h.2 with ⟨rfl, h0⟩ | ⟨g, cap, cur, rfl, _⟩
  · have hl : l = [] := by
      have := h.1
      simp at this
      exact List.eq_nil_of_length_eq_zero (by omega)
    subst hl
    exact Go.Lib.run_convert_nil_bytes w src dst e 0 hs he hd
  · have hll : l.length = n := by have := h.1; simp at this; omega
    subst hll
    refine run_convert_bytes_back w src dst e ⟨g, 0, none⟩ _ l hs he hd (fun j hj => ?_)
    have hadd : (⟨g, 0, none⟩ : Addr).add j = ⟨g, j, none⟩ := by unfold Addr.add; split <;> simp_all
    rw [hadd, h.cellAt j (by omega)]
    simp [u8v, hj]
theorem below_trans' {B C : Nat} {a b c : World} (h : Below B a b) (k : Below C b c) (hC : B ≤ C) : Below B a c := h.trans (k.mono hC)
end Go.Proofs.YtfcoigcenheefaaDoor
