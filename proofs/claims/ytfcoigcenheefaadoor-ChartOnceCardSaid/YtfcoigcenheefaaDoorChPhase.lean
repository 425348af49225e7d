import Derived.Test.YtfcoigcenheefaaDoorInvPh
import Derived.Test.YtfcoigcenheefaaDoorChRow
import Derived.Test.YtfcoigcenheefaaDoorPut
import Derived.RangeFuncOwn
import Derived.RangeFuncCalls
set_option linter.unusedVariables false
set_option linter.unusedSimpArgs false
namespace Go.Proofs.YtfcoigcenheefaaDoor
open Go.RowKit
theorem getD_set_mono {A : Array Bool} {k j : Nat} (h : A.getD j false = true) : (A.setIfInBounds k true).getD j false = true := by
  by_cases e : k = j
  · subst e
    rw [Array.getD_eq_getD_getElem?] at h ⊢
    rcases Nat.lt_or_ge k A.size with hk | hk
    · simp [hk]
    · simp [Array.getElem?_eq_none hk] at h
  · rw [getD_set_ne false e]; exact h
/-- What a row of the chart is, behind its number. -/
def RowOk (l : List Ev) (g : Nat) (s : List UInt8) : Prop := ∃ bs : List UInt8, s = Lib.decDigits g ++ 58 :: bs ∧ bs.length = l.length ∧ ∀ t, t < l.length → (bs.getD t 0 ≠ 32 ↔ (l.getD t default).g = g)
theorem keeps_below {W W' : World} (h : Below W.heap.size W W') : KeepsOthers W W' := ⟨h.size, fun k o hk _ => (h.block k (lt_of_block hk)).trans hk⟩
/-- How the worlds go on in the region that adds a row: which operations are over says how far it is. -/
structure TCh (OB : Nat) (v' : Value) (listed : Array Bool) (w0 w' : World) : Prop where
  ko : KeepsOthers w0 w'
  frm : Frm (fun q => q = OB ∨ v'.ownBlock = some q) w0 w'
  bel : listed.getD 12 false = false → Below w0.heap.size w0 w'
  ob : listed.getD 13 false = false → w'.heap[OB]? = w0.heap[OB]?
  f1 : listed.getD 13 false = true → listed.getD 12 false = true
  f2 : listed.getD 12 false = true → listed.getD 0 false = true
theorem TCh.start (OB : Nat) (v' : Value) (w : World) (n : Nat) : TCh OB v' (Array.replicate n false) w w :=
  ⟨KeepsOthers.refl _, Frm.refl _ _, fun _ => Below.refl _ _, fun _ => rfl, fun h => (by rw [getD_replicate_false] at h; cases h), fun h => (by rw [getD_replicate_false] at h; cases h)⟩
theorem TCh.step {OB : Nat} {v' : Value} {listed : Array Bool} {w0 w' w'' : World} {k : Nat} (h : TCh OB v' listed w0 w') (h12 : k ≠ 12) (h13 : k ≠ 13) (hO : OB < w0.heap.size) (hb : Below w'.heap.size w' w'') : TCh OB v' (listed.setIfInBounds k true) w0 w'' := by
  have e12 : (listed.setIfInBounds k true).getD 12 false = listed.getD 12 false := getD_set_ne false h12
  have e13 : (listed.setIfInBounds k true).getD 13 false = listed.getD 13 false := getD_set_ne false h13
  have hsz := h.frm.size
  refine ⟨h.ko.trans (keeps_below hb), h.frm.trans (⟨hb.os, hb.tape, hb.output, hb.size, fun q hq _ => hb.block q hq⟩ : Frm (fun q => q = OB ∨ v'.ownBlock = some q) w' w'') (fun _ _ h => h), ?_, ?_, ?_, ?_⟩
  · rw [e12]; exact fun h1 => (h.bel h1).trans (hb.mono hsz)
  · rw [e13]; exact fun h1 => (hb.block OB (by omega)).trans (h.ob h1)
  · rw [e12, e13]; exact h.f1
  · rw [e12]; exact fun h1 => getD_set_mono (h.f2 h1)
theorem TCh.below {OB : Nat} {v' : Value} {listed : Array Bool} {w0 w' : World} (h : TCh OB v' listed w0 w') {B : Nat} (hB : B ≤ w0.heap.size) (h1 : B ≤ OB) (h2 : ∀ q, v'.ownBlock = some q → B ≤ q) : Below B w0 w' :=
  h.frm.below hB (fun q hq => hq.elim (fun e => by omega) (h2 q))
def RCh (l : List Ev) (k : Nat) (OB B2 n0 : Nat) (v0 vn v' : Value) (ss : List (List UInt8)) : Nat → Value → World → Prop
  | 0, v, _ => v = v'
  | 1, v, _ => v = .int .i64 k
  | 2, v, _ => v = .int .i64 ((k : Int) + 1)
  | 3, v, _ => v = .string ⟨(Lib.decDigits (k + 1)).toArray⟩
  | 4, v, _ => v = .string ⟨(Lib.decDigits (k + 1) ++ [58]).toArray⟩
  | 5, v, _ => v = .agg #[v0]
  | 6, v, _ => v = vn
  | 7, v, _ => v = .int .i64 k
  | 8, v, _ => v = .int .i64 ((k : Int) + 1)
  | 9, v, _ => ∃ bs : List UInt8, v = .string ⟨bs.toArray⟩ ∧ bs.length = l.length ∧ ∀ t, t < l.length → (bs.getD t 0 ≠ 32 ↔ (l.getD t default).g = (k : Int) + 1)
  | 10, v, _ => ∃ s, v = strV s ∧ RowOk l (k + 1) s
  | 11, v, w => ∃ H s, v = .slice (some ⟨H, 0, none⟩) 1 1 ∧ RowOk l (k + 1) s ∧ n0 ≤ H ∧ w.heap[H]? = some (.cells #[strV s] 9 (0, 0))
  | 12, v, w => ∃ g cap s, v = .slice (some ⟨g, 0, none⟩) (k + 1) cap ∧ RowOk l (k + 1) s ∧ w.ownsRow B2 9 1 v (k + 1) ((ss ++ [s]).map strV) ∧ g ≠ OB
  | 13, _, w => ∃ v'' s, RowOk l (k + 1) s ∧ w.heap[OB]? = some (.cells #[v''] 79 (0, 0)) ∧ w.ownsRow B2 9 1 v'' (k + 1) ((ss ++ [s]).map strV)
  | _, _, _ => True
theorem rch_stab {l : List Ev} {k OB B2 n0 : Nat} {v0 vn v' : Value} {ss : List (List UInt8)} {w w' : World} (hb : Below w.heap.size w w') : ∀ j u, RCh l k OB B2 n0 v0 vn v' ss j u w → RCh l k OB B2 n0 v0 vn v' ss j u w'
  | 11, u, ⟨H, s, h1, h2, h3, h4⟩ => ⟨H, s, h1, h2, h3, (hb.block H (lt_of_block h4)).trans h4⟩
  | 12, u, ⟨g, cap, s, h1, h2, h3, h4⟩ => ⟨g, cap, s, h1, h2, row_below h3 hb (Nat.le_refl _), h4⟩
  | 13, u, ⟨v'', s, h1, h2, h3⟩ => ⟨v'', s, h1, (hb.block OB (lt_of_block h2)).trans h2, row_below h3 hb (Nat.le_refl _)⟩
  | 0, _, h | 1, _, h | 2, _, h | 3, _, h | 4, _, h | 5, _, h | 6, _, h | 7, _, h | 8, _, h | 9, _, h | 10, _, h => h
  | _ + 14, _, _ => trivial
end Go.Proofs.YtfcoigcenheefaaDoor
