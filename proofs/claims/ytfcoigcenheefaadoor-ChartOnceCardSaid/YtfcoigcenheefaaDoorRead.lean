/-
  Plain laws on how Go's data lie in memory: what a reading of a place gives, type by type. They hold for every program and every world.
-/
import Derived.WalkKit
import Derived.ProofKit
import Derived.OpenShut
import Derived.Deep.Slices
namespace Go.Proofs.YtfcoigcenheefaaDoor
open Go.RowKit

section
variable {H : Type} {enc : TypeId × Value → H} {P : Program} {w : World}

/-- These cells can be read as data of type t. -/
def Rd (enc : TypeId × Value → H) (P : Program) (w : World) (t : TypeId) (cs : List Value) : Prop :=
  ∃ m y, DataW.trod enc P w 0 (fun _ => true) true m t cs = some y

/-- At this place lies what can be read as data of type t. -/
def RdAt (enc : TypeId × Value → H) (P : Program) (w : World) (t : TypeId) (b o : Nat) : Prop :=
  ∃ cs, cs.length = P.cellsOf t ∧ (∀ j, j < cs.length → w.cell? ⟨b, o + j, none⟩ = cs[j]?) ∧ Rd enc P w t cs

theorem rd_int {t : TypeId} {k : IntKind} (ht : P.underlying t = some (.int k)) {cs : List Value} (h : Rd enc P w t cs) : ∃ n, cs = [.int k n] ∧ (Lit.int k n).wf = true := by
  obtain ⟨m, y, h⟩ := h
  obtain ⟨n, h1, _, h3⟩ := DataW.trod_int ht h
  exact ⟨n, h1, h3⟩
theorem rd_bool {t : TypeId} (ht : P.underlying t = some .bool) {cs : List Value} (h : Rd enc P w t cs) : ∃ x, cs = [.bool x] := by
  obtain ⟨m, y, h⟩ := h
  obtain ⟨n, h1, _⟩ := DataW.trod_bool ht h
  exact ⟨n, h1⟩
theorem rd_string {t : TypeId} (ht : P.underlying t = some .string) {cs : List Value} (h : Rd enc P w t cs) : ∃ s : ByteArray, cs = [.string s] ∧ s.size ≤ maxLen := by
  obtain ⟨m, y, h⟩ := h
  obtain ⟨n, h1, _, h3⟩ := DataW.trod_string ht h
  exact ⟨n, h1, h3⟩
theorem rd_struct {t : TypeId} {fs : Array Field} (ht : P.underlying t = some (.struct fs)) {cs : List Value} (h : Rd enc P w t cs) :
    cs.length = P.cellsOf t ∧ ∀ (i : Nat) (f : Field), fs[i]? = some f → Rd enc P w f.type ((cs.drop f.offset).take (P.cellsOf f.type)) := by
  obtain ⟨m, y, h⟩ := h
  obtain ⟨xs, n, _, _, h3, h4, h5⟩ := DataW.trod_struct ht h
  refine ⟨h3, fun i f hf => ?_⟩
  have hi : i < xs.length := by rw [h4]; exact (Array.getElem?_eq_some_iff.1 hf).1
  exact ⟨n, xs[i], by rw [h5 i f hf, List.getElem?_eq_getElem hi]⟩
theorem rd_array {t e : TypeId} {n : Nat} (ht : P.underlying t = some (.array n e)) {cs : List Value} (h : Rd enc P w t cs) :
    cs.length = P.cellsOf t ∧ ∀ i, i < n → Rd enc P w e ((cs.drop (i * P.cellsOf e)).take (P.cellsOf e)) := by
  obtain ⟨m, y, h⟩ := h
  cases m with
  | zero => simp [DataW.trod] at h
  | succ m =>
    unfold DataW.trod at h
    rw [ht] at h
    dsimp only at h
    split at h
    · rename_i h1
      obtain ⟨xs, h2, _⟩ := Option.map_eq_some_iff.1 h
      refine ⟨h1, fun i hi => ?_⟩
      have h3 := Go.mapM_some_get h2 i i (by simp [hi])
      have hl : xs.length = n := by simpa using Go.mapM_some_length h2
      exact ⟨m, xs[i]'(by omega), by rw [h3, List.getElem?_eq_getElem (by omega)]⟩
    · cases h

theorem addr_add (b o j : Nat) : (⟨b, o, none⟩ : Addr).add j = ⟨b, o + j, none⟩ := by unfold Addr.add; split <;> simp_all

theorem rd_slice {t e : TypeId} (ht : P.underlying t = some (.slice e)) (hc : 0 < P.cellsOf e) {cs : List Value} (h : Rd enc P w t cs) :
    ∃ (a : Option Addr) (len cap : Nat), cs = [.slice a len cap] ∧ len ≤ cap ∧ cap ≤ maxLen ∧ (a = none → len = 0 ∧ cap = 0) ∧
      ∃ b o, (0 < len → a = some ⟨b, o, none⟩) ∧ ∀ i, i < len → RdAt enc P w e b (o + i * P.cellsOf e) := by
  obtain ⟨m, y, h⟩ := h
  rcases DataW.trod_slice ht h with ⟨rfl, _⟩ | ⟨a, len, cap, elems, rest, n, _, rfl, _, _, h5, h6, h7, h8, _⟩
  · exact ⟨none, 0, 0, rfl, Nat.le_refl _, by simp [maxLen], fun _ => ⟨rfl, rfl⟩, 0, 0, fun h => absurd h (by omega), fun i h => absurd h (by omega)⟩
  · have one : ∀ i, i < len → ∃ cs', w.cells? 0 (a.add (i * P.cellsOf e)) (P.cellsOf e) = some cs' ∧ Rd enc P w e cs' := fun i hi => by
      have h := h8 i hi
      rw [List.getElem?_eq_getElem (by omega)] at h
      obtain ⟨cs', h1, h2⟩ := Option.bind_eq_some_iff.1 h
      exact ⟨cs', h1, n, _, h2⟩
    obtain ⟨b, o, spot⟩ := a
    have hsp : 0 < len → spot = none := fun h0 => by
      obtain ⟨cs', h1, _⟩ := one 0 h0
      obtain ⟨_, h2, h3⟩ := World.cells?_some h1
      have h4 := h3 0 hc
      rw [List.getElem?_eq_getElem (by omega)] at h4
      have := World.cell?_spot h4
      simpa [Addr.add] using this
    refine ⟨_, len, cap, rfl, h5, h6, by simp, b, o, fun h0 => by rw [hsp h0], fun i hi => ?_⟩
    have hs0 := hsp (by omega)
    subst hs0
    obtain ⟨cs', h1, h2⟩ := one i hi
    obtain ⟨_, h3, h4⟩ := World.cells?_some h1
    refine ⟨cs', h3, fun j hj => ?_, h2⟩
    have := h4 j (by omega)
    rw [addr_add, addr_add] at this
    exact this

theorem rdAt_one {t : TypeId} (hc : P.cellsOf t = 1) {b o : Nat} (h : RdAt enc P w t b o) : ∃ v, w.cell? ⟨b, o, none⟩ = some v ∧ Rd enc P w t [v] := by
  obtain ⟨cs, h1, h2, h3⟩ := h
  rw [hc] at h1
  match cs, h1 with
  | [v], _ => exact ⟨v, by simpa using h2 0 (by simp), h3⟩
theorem rdAt_int {t : TypeId} {k : IntKind} (ht : P.underlying t = some (.int k)) (hc : P.cellsOf t = 1) {b o : Nat} (h : RdAt enc P w t b o) : ∃ n, w.cell? ⟨b, o, none⟩ = some (.int k n) ∧ (Lit.int k n).wf = true := by
  obtain ⟨v, h1, h2⟩ := rdAt_one hc h
  obtain ⟨n, h3, h4⟩ := rd_int ht h2
  simp at h3; subst h3
  exact ⟨n, h1, h4⟩
theorem rdAt_bool {t : TypeId} (ht : P.underlying t = some .bool) (hc : P.cellsOf t = 1) {b o : Nat} (h : RdAt enc P w t b o) : ∃ x, w.cell? ⟨b, o, none⟩ = some (.bool x) := by
  obtain ⟨v, h1, h2⟩ := rdAt_one hc h
  obtain ⟨n, h3⟩ := rd_bool ht h2
  simp at h3; subst h3
  exact ⟨n, h1⟩
theorem rdAt_slice {t e : TypeId} (ht : P.underlying t = some (.slice e)) (hc : 0 < P.cellsOf e) (hc1 : P.cellsOf t = 1) {b o : Nat} (h : RdAt enc P w t b o) :
    ∃ (a : Option Addr) (len cap : Nat), w.cell? ⟨b, o, none⟩ = some (.slice a len cap) ∧ len ≤ cap ∧ cap ≤ maxLen ∧ (a = none → len = 0 ∧ cap = 0) ∧
      ∃ b o, (0 < len → a = some ⟨b, o, none⟩) ∧ ∀ i, i < len → RdAt enc P w e b (o + i * P.cellsOf e) := by
  obtain ⟨v, h1, h2⟩ := rdAt_one hc1 h
  obtain ⟨a, len, cap, h3, h4⟩ := rd_slice ht hc h2
  simp at h3; subst h3
  exact ⟨a, len, cap, h1, h4⟩
theorem rdAt_field {t : TypeId} {fs : Array Field} (ht : P.underlying t = some (.struct fs)) {b o : Nat} (h : RdAt enc P w t b o) (i : Nat) (f : Field) (hf : fs[i]? = some f) (hl : f.offset + P.cellsOf f.type ≤ P.cellsOf t) :
    RdAt enc P w f.type b (o + f.offset) := by
  obtain ⟨cs, h1, h2, h3⟩ := h
  obtain ⟨_, h4⟩ := rd_struct ht h3
  have hlen : ((cs.drop f.offset).take (P.cellsOf f.type)).length = P.cellsOf f.type := by simp; omega
  refine ⟨_, hlen, fun j hj => ?_, h4 i f hf⟩
  rw [hlen] at hj
  have := h2 (f.offset + j) (by omega)
  rw [Nat.add_assoc, this, List.getElem?_take_of_lt hj, List.getElem?_drop]

/-- From 'for every i < n there is an x' to one list. -/
theorem list_of {α : Type} [Inhabited α] {n : Nat} {p : Nat → α → Prop} (h : ∀ i, i < n → ∃ x, p i x) : ∃ l : List α, l.length = n ∧ ∀ i, i < n → p i (l.getD i default) := by
  obtain ⟨f, hf⟩ := Go.Deep.choose_lt h
  refine ⟨(List.range n).map f, by simp, fun i hi => ?_⟩
  simp [List.getD, hi]
  exact hf i hi
theorem wf_bd {n : Int} (h : (Lit.int .i64 n).wf = true) : -9223372036854775808 ≤ n ∧ n ≤ 9223372036854775807 := by
  simpa [Lit.wf, IntKind.min, IntKind.max, IntKind.signed, IntKind.bits] using h
end
end Go.Proofs.YtfcoigcenheefaaDoor
