import Derived.Test.YtfcoigcenheefaaDoorGapB
import Derived.Test.YtfcoigcenheefaaDoorShelf
import Derived.Test.YtfcoigcenheefaaDoorInv
set_option linter.unusedVariables false
set_option linter.unusedSimpArgs false
namespace Go.Proofs.YtfcoigcenheefaaDoor
open Go.RowKit
/-- The sign at a place. -/
def headC (width i : Nat) : UInt8 := if i % width = 0 then 124 else 32
def headL (width n : Nat) : List UInt8 := (List.range n).map (headC width)
def headS (n width : Int) : List UInt8 := if n < 0 ∨ 1000 < n ∨ width < 1 ∨ 200 < width then [] else headL width.toNat n.toNat
theorem headL_succ (width n : Nat) : headL width (n + 1) = headL width n ++ [headC width n] := by simp [headL, List.range_succ]
theorem headL_len (width n : Nat) : (headL width n).length = n := by simp [headL]
set_option maxHeartbeats 1000000 in

theorem Tryd.info5 : (Tryd.prog.info? 5).map (fun i => (i.zero, i.size, i.bytes)) = some (some (.int .u8 0), 1, 1) := by kernel_rfl
set_option maxHeartbeats 1000000 in
theorem rhead_any (w : World) (n width : Int) :
    Calls Tryd.prog 14 #[.int .i64 n, .int .i64 width] w fun e w' => e = .returned (.string ⟨(headS n width).toArray⟩) ∧ Below w.heap.size w w' := by
  by_cases hc : n < 0 ∨ 1000 < n ∨ width < 1 ∨ 200 < width
  · have hz : Hid (headS n width = []) := if_pos hc
    by_cases h1 : n < 0
    · clear hc
      go_enter Tryd.func14, Tryd.ntmps14
      go_wp2
      go_ret
      exact ⟨by rw [hz.out]; rfl, Below.refl _ _⟩
    · by_cases h2 : 1000 < n
      · clear hc
        go_enter Tryd.func14, Tryd.ntmps14
        go_wp2
        go_ret
        exact ⟨by rw [hz.out]; rfl, Below.refl _ _⟩
      · by_cases h3 : width < 1
        · clear hc
          go_enter Tryd.func14, Tryd.ntmps14
          go_wp2
          go_ret
          exact ⟨by rw [hz.out]; rfl, Below.refl _ _⟩
        · have h4 : 200 < width := by omega
          clear hc
          go_enter Tryd.func14, Tryd.ntmps14
          go_wp2
          go_ret
          exact ⟨by rw [hz.out]; rfl, Below.refl _ _⟩
  · obtain ⟨N, rfl⟩ : ∃ N : Nat, n = N := ⟨n.toNat, by omega⟩
    obtain ⟨W, rfl⟩ : ∃ W : Nat, width = W := ⟨width.toNat, by omega⟩
    have hz : Hid (headS N W = headL W N) := by show _ = _; rw [headS, if_neg hc]; rfl
    have h1 : N ≤ 1000 := by omega
    have h2 : 1 ≤ W := by omega
    have h3 : W ≤ 200 := by omega
    have h1' : (N : Int) ≤ 1000 := by omega
    have h2' : (1 : Int) ≤ W := by omega
    have h3' : (W : Int) ≤ 200 := by omega
    clear hc
    go_enter Tryd.func14, Tryd.ntmps14
    go_wp2_with fail
    go_loopw [5, 6] (fun s5 s6 wr => ∃ k : Nat, k ≤ N ∧ s6 = .int .i64 k ∧ wr.ownsRow w.heap.size 5 1 s5 k ((headL W k).map u8v) ∧ Below w.heap.size w wr) (fun _ s6 _ => N - (intOf s6).toNat)
    case atStart => exact ⟨0, Nat.zero_le _, rfl, World.ownsRow_nil _ _ _ _, Below.refl _ _⟩
    case round =>
      obtain ⟨k, hk, rfl, hown, hb⟩ := hrel
      have hz1 := hb.size
      by_cases hlt : k < N
      · have k1 : (k : Int) < (N : Int) := by omega
        have k0 : (0 : Int) ≤ (k : Int) := by omega
        have k2 : (k : Int) ≤ 1000 := by omega
        have HS := Lib.hid (headL_succ W k)
        by_cases hm : k % W = 0
        · have hm2 : ((k : Int) % (W : Int) == 0) = true := by
            have : ((k : Int) % (W : Int)) = ((k % W : Nat) : Int) := by simp
            rw [this, hm]; rfl
          have HC : Hid (u8v (headC W k) = .int .u8 124) := by show _ = _; rw [headC, if_pos hm]; rfl
          clear hm
          go_wp2_with (at_builtin; refine wpList_app wr 5 [.int .u8 124] rfl _ _ 94 rfl w.heap.size (.int .u8 0) 1 1 Tryd.underlying94 Tryd.info5 rfl (by decide) _ _ _ rfl hown _ rfl (by simp) rfl rfl (by omega) (by omega) hz1 w.heap.size w hb (Nat.le_refl _) ?_; intro gg cap w' hown' hb' _ _)
          go_roundw
          case rel => exact ⟨k + 1, by omega, by go_num, by rw [HS.out, List.map_append, List.map_cons, List.map_nil, HC.out]; exact hown', hb'⟩
          case measure => simp [intOf]; omega
        · have hm2 : ((k : Int) % (W : Int) == 0) = false := by
            have : ((k : Int) % (W : Int)) = ((k % W : Nat) : Int) := by simp
            rw [this]; simp; omega
          have HC : Hid (u8v (headC W k) = .int .u8 32) := by show _ = _; rw [headC, if_neg hm]; rfl
          clear hm
          go_wp2_with (at_builtin; refine wpList_app wr 5 [.int .u8 32] rfl _ _ 94 rfl w.heap.size (.int .u8 0) 1 1 Tryd.underlying94 Tryd.info5 rfl (by decide) _ _ _ rfl hown _ rfl (by simp) rfl rfl (by omega) (by omega) hz1 w.heap.size w hb (Nat.le_refl _) ?_; intro gg cap w' hown' hb' _ _)
          go_roundw
          case rel => exact ⟨k + 1, by omega, by go_num, by rw [HS.out, List.map_append, List.map_cons, List.map_nil, HC.out]; exact hown', hb'⟩
          case measure => simp [intOf]; omega
      · have e : k = N := by omega
        have HE := Lib.hid e
        clear e
        have hconv := run_string_row (P := Tryd.prog) Tryd.underlying94 Tryd.underlying5 Tryd.underlying9 hown
        go_wp2_with fail
        go_ret
        refine ⟨?_, hb⟩
        rw [hz.out, HE.out]; rfl

theorem conv_one (w : World) (B : Nat) (c : UInt8) (h : w.cell? ⟨B, 0, none⟩ = some (.int .u8 c.toNat)) : Sem.run Tryd.prog (convert 94 9 (.slice (some ⟨B, 0, none⟩) 1 1)) w = .ok (.string ⟨#[c]⟩) w :=
  run_convert_bytes_back w 94 9 5 ⟨B, 0, none⟩ 1 [c] Tryd.underlying94 Tryd.underlying5 Tryd.underlying9 (fun j hj => by
    have : j = 0 := by simpa using hj
    subst this
    simpa [Addr.add] using h)
theorem rep_any (l : List UInt8) (c : Nat) (x : Int) (hx : x = (c : Int)) (w : World) (h1 : l.length ≤ 10000) (h2 : c ≤ 10000) :
    Calls Tryd.prog 64 #[.string ⟨l.toArray⟩, .int .i64 x] w fun e w' => e = .returned (.string ⟨(Lib.repeatL l c).toArray⟩) ∧ Below w.heap.size w w' := by
  subst hx
  refine (Tryd.strings_Repeat ⟨l.toArray⟩ c w (by omega) ?_).mono ?_
  · have : (⟨l.toArray⟩ : ByteArray).size = l.length := by simp [ByteArray.size]
    rw [this]
    have : l.length * c ≤ 10000 * 10000 := Nat.mul_le_mul h1 h2
    omega
  · rintro e w' ⟨he, hb⟩
    exact ⟨by simpa using he, hb⟩
def RHead (W : Nat) : Nat → Value → World → Prop
  | 0, v, w => ∃ B, v = .slice (some ⟨B, 0, none⟩) 1 1 ∧ w.cell? ⟨B, 0, none⟩ = some (.int .u8 124)
  | 1, v, w => v = .string ⟨#[124]⟩
  | 2, v, w => ∃ B, v = .slice (some ⟨B, 0, none⟩) 1 1 ∧ w.cell? ⟨B, 0, none⟩ = some (.int .u8 32)
  | 3, v, w => v = .string ⟨#[32]⟩
  | 4, v, w => v = .int .i64 W
  | 5, v, w => v = .int .i64 ((W : Int) - 1)
  | 6, v, w => v = .string ⟨(Lib.repeatL [32] (W - 1)).toArray⟩
  | 7, v, w => v = .string ⟨(124 :: Lib.repeatL [32] (W - 1)).toArray⟩
  | 8, v, w => v = .string ⟨(124 :: Lib.repeatL [32] (W - 1)).toArray⟩
  | _, _, _ => True
theorem rhead_stab (W : Nat) {w w' : World} (h : Frm (fun _ => False) w w') : ∀ j u, RHead W j u w → RHead W j u w'
  | 0, u, ⟨B, h1, h2⟩ => ⟨B, h1, h.cell h2 (fun e => e)⟩
  | 1, u, h1 => h1
  | 2, u, ⟨B, h1, h2⟩ => ⟨B, h1, h.cell h2 (fun e => e)⟩
  | 3, u, h1 => h1
  | 4, u, h1 => h1
  | 5, u, h1 => h1
  | 6, u, h1 => h1
  | 7, u, h1 => h1
  | 8, u, h1 => h1
  | _ + 9, _, _ => trivial
theorem rep_get (l : List UInt8) (hl : 0 < l.length) : ∀ c i, i < c * l.length → (Lib.repeatL l c)[i]? = l[i % l.length]?
  | 0, i, h => by simp at h
  | c + 1, i, h => by
    rw [Nat.add_mul] at h
    show (l ++ Lib.repeatL l c)[i]? = _
    by_cases e : i < l.length
    · rw [List.getElem?_append_left e, Nat.mod_eq_of_lt e]
    · rw [List.getElem?_append_right (by omega), rep_get l hl c _ (by omega), ← Nat.mod_eq_sub_mod (by omega)]
theorem head_rep (N W : Nat) (h : 1 ≤ W) : headL W N = (Lib.repeatL (124 :: Lib.repeatL ([32] : List UInt8) (W - 1)) (N / W + 1)).take N := by
  have hlen : (124 :: Lib.repeatL ([32] : List UInt8) (W - 1)).length = W := by rw [List.length_cons, Lib.repeatL_length]; simp; omega
  have hN : N < (N / W + 1) * W := by
    rw [Nat.add_mul, Nat.mul_comm]
    have := Nat.div_add_mod N W
    have := Nat.mod_lt N (show 0 < W by omega)
    omega
  apply List.ext_getElem?
  intro i
  rw [List.getElem?_take]
  by_cases hi : i < N
  · rw [if_pos hi, rep_get _ (by simp) _ _ (by rw [hlen]; omega), hlen, headL, List.getElem?_map, List.getElem?_range hi]
    have hm := Nat.mod_lt i (show 0 < W by omega)
    rw [show Lib.repeatL ([32] : List UInt8) (W - 1) = List.replicate (W - 1) 32 by
      have := Lib.repeatL_replicate 32 1 (W - 1); simpa using this]
    rcases hj : i % W with _ | j
    · simp [headC, hj]
    · simp [headC, hj, List.getElem?_replicate]; omega
  · rw [if_neg hi, List.getElem?_eq_none (by rw [headL_len]; omega)]
set_option maxRecDepth 100000 in
set_option maxHeartbeats 1000000 in
theorem head_any (w : World) (N W : Nat) (h1 : N ≤ 1000) (h2 : 1 ≤ W) (h3 : W ≤ 200) :
    Calls Tryd.prog 13 #[.int .i64 N, .int .i64 W] w fun e w' => e = .returned (.string ⟨(headL W N).toArray⟩) ∧ Below w.heap.size w w' := by
  have h1' : (N : Int) ≤ 1000 := by omega
  have h2' : (1 : Int) ≤ W := by omega
  have h3' : (W : Int) ≤ 200 := by omega
  have HD : Hid (([32] : List UInt8).length ≤ 10000) := by show _ ≤ _; decide
  have HO : Hid (W - 1 ≤ 10000) := by show _ ≤ _; omega
  have HR : Hid ((W : Int) - 1 = ((W - 1 : Nat) : Int)) := by show _ = _; omega
  go_enter Tryd.func13, Tryd.ntmps13
  go_wp2_with fail
  refine wp_region_inv (by kernel_rfl) 36 rfl (by kernel_rfl) (fun x y => Frm (fun _ => False) x y) (RHead W) (Frm.refl _ _) ?_ ?_
  · refine ⟨?_, ?_, ?_, ?_, ?_, ?_, ?_, ?_, ?_, trivial⟩
    · rintro ⟨t, ds⟩ w' hd hfr hT hdep K hK
      obtain rfl : ds = [] := hd
      go_simp
      exact hK _ _ (hT.alloc _) (rhead_stab W ((Frm.refl _ _).alloc _)) ⟨_, rfl, by simp⟩
    · rintro ⟨t, ds⟩ w' hd hfr hT hdep K hK
      obtain rfl : ds = [] := hd
      obtain ⟨B, hv, hc⟩ := hdep ⟨0, .data⟩ (by simp) rfl _ rfl
      change t.getD 20 undef = _ at hv
      have hcv := conv_one w' B 124 hc
      go_simp
      exact hK _ _ hT (fun _ _ h => h) rfl
    · rintro ⟨t, ds⟩ w' hd hfr hT hdep K hK
      obtain rfl : ds = [] := hd
      go_simp
      exact hK _ _ (hT.alloc _) (rhead_stab W ((Frm.refl _ _).alloc _)) ⟨_, rfl, by simp⟩
    · rintro ⟨t, ds⟩ w' hd hfr hT hdep K hK
      obtain rfl : ds = [] := hd
      obtain ⟨B, hv, hc⟩ := hdep ⟨2, .data⟩ (by simp) rfl _ rfl
      change t.getD 22 undef = _ at hv
      have hcv := conv_one w' B 32 hc
      go_simp
      exact hK _ _ hT (fun _ _ h => h) rfl
    · rintro ⟨t, ds⟩ w' hd hfr hT hdep K hK
      obtain rfl : ds = [] := hd
      have hv := hfr 1 rfl
      change t.getD 1 undef = .int .i64 W at hv
      go_simp
      exact hK _ _ hT (fun _ _ h => h) rfl
    · rintro ⟨t, ds⟩ w' hd hfr hT hdep K hK
      obtain rfl : ds = [] := hd
      have hv := hdep ⟨4, .data⟩ (by simp) rfl _ rfl
      change t.getD 24 undef = .int .i64 W at hv
      have hw : IntKind.i64.wrap ((W : Int) - 1) = (W : Int) - 1 := by rw [IntKind.wrap_i64]; omega
      go_simp
      exact hK _ _ hT (fun _ _ h => h) rfl
    · rintro ⟨t, ds⟩ w' hd hfr hT hdep K hK
      obtain rfl : ds = [] := hd
      have hv := hdep ⟨3, .data⟩ (by simp) rfl _ rfl
      have hv2 := hdep ⟨5, .data⟩ (by simp) rfl _ rfl
      change t.getD 23 undef = .string _ at hv
      change t.getD 25 undef = .int .i64 _ at hv2
      have HCR := rep_any [32] (W - 1) _ HR.out w' HD.out HO.out
      go_simp
      refine HCR.mono ?_
      rintro e w'' ⟨rfl, hb⟩
      have hF : Frm (fun _ => False) w' w'' := ⟨hb.os, hb.tape, hb.output, hb.size, fun k hk _ => hb.block k hk⟩
      exact hK _ _ (hT.trans hF (fun _ _ h => h)) (rhead_stab W hF) rfl
    · rintro ⟨t, ds⟩ w' hd hfr hT hdep K hK
      obtain rfl : ds = [] := hd
      have hv := hdep ⟨1, .data⟩ (by simp) rfl _ rfl
      have hv2 := hdep ⟨6, .data⟩ (by simp) rfl _ rfl
      change t.getD 21 undef = .string _ at hv
      change t.getD 26 undef = .string _ at hv2
      have hl : ¬ (9223372036854775807 < 1 + (Lib.repeatL ([32] : List UInt8) (W - 1)).length) := by
        have := HO.out
        rw [Lib.repeatL_length]; simp; omega
      go_simp
      refine hK _ _ hT (fun _ _ h => h) ?_
      show Value.string _ = Value.string _
      congr 1
    · rintro ⟨t, ds⟩ w' hd hfr hT hdep K hK
      obtain rfl : ds = [] := hd
      have hv := hdep ⟨7, .data⟩ (by simp) rfl _ rfl
      change t.getD 27 undef = .string _ at hv
      go_simp
      exact hK _ _ hT (fun _ _ h => h) rfl
  · rename_i Qc hc Kc hKc
    rintro ⟨t, ds⟩ w' hd hsz hfr hT hall
    refine hKc _ _ ?_
    clear hKc Kc
    obtain rfl : ds = [] := hd
    have ht := tmps_lit t 36 hsz
    have f0 := hfr 0 rfl
    have f1 := hfr 1 rfl
    have f5 := hall 8 _ rfl
    change t.getD 0 undef = .int .i64 N at f0
    change t.getD 1 undef = .int .i64 W at f1
    change t.getD 5 undef = .string _ at f5
    simp only [f0, f1, f5, List.range, List.range.loop, List.map] at ht
    rw [ht]
    clear ht f0 f1 f5 hfr hall hsz
    set_option maxHeartbeats 200000 in
    go_wp2_with fail
    rename_i K0 K1 hK1
    have hq : N / W ≤ N := Nat.div_le_self _ _
    have hx : wrap64 (wrap64 ((N : Int) / W) + 1) = ((N / W + 1 : Nat) : Int) := by
      rw [show ((N : Int) / W) = ((N / W : Nat) : Int) by simp]
      generalize N / W = q at hq ⊢
      have e1 : wrap64 (q : Int) = q := IntWalk.wrap64_in _ ⟨by omega, by omega⟩
      rw [e1]
      exact IntWalk.wrap64_in _ ⟨by omega, by omega⟩
    have hlen : (124 :: Lib.repeatL [32] (W - 1)).length = W := by rw [List.length_cons, Lib.repeatL_length]; simp; omega
    have hlen2 : N ≤ (Lib.repeatL (124 :: Lib.repeatL ([32] : List UInt8) (W - 1)) (N / W + 1)).length := by
      rw [Lib.repeatL_length, hlen, Nat.add_mul, Nat.mul_comm]
      have := Nat.div_add_mod N W
      have := Nat.mod_lt N (show 0 < W by omega)
      omega
    have hhead : headL W N = (Lib.repeatL (124 :: Lib.repeatL ([32] : List UInt8) (W - 1)) (N / W + 1)).take N := head_rep N W h2
    refine (rep_any _ (N / W + 1) _ hx w' (by rw [hlen]; omega) (by omega)).mono ?_
    rintro e w2 ⟨rfl, hb⟩
    refine hK1 _ _ ?_
    clear hK1 K1
    generalize hL : Lib.repeatL (124 :: Lib.repeatL ([32] : List UInt8) (W - 1)) (N / W + 1) = L at *
    have hlen3 : (N : Int) ≤ (L.length : Int) := by omega
    have hlen4 : (L.length : Int) ≤ 2000000 := by
      rw [← hL, Lib.repeatL_length, hlen]
      have : (N / W + 1) * W ≤ 1001 * 200 := Nat.mul_le_mul (by omega) h3
      omega
    clear hx hlen2
    go_wp2_with fail
    have hres : (Value.string ((⟨L.toArray⟩ : ByteArray).extract 0 N)) = .string ⟨(headL W N).toArray⟩ := by
      rw [hhead]
      congr 1
      apply ByteArray.ext
      simp [ByteArray.data_extract]
    rw [hres]
    go_ret
    refine ⟨rfl, ?_⟩
    have hb1 : Below w.heap.size w w' := ⟨hT.os, hT.tape, hT.output, hT.size, fun k hk => hT.block k hk (fun e => e)⟩
    exact hb1.trans (hb.mono hb1.size)
set_option maxRecDepth 100000 in
theorem head_all (w : World) (n width : Int) :
    Calls Tryd.prog 13 #[.int .i64 n, .int .i64 width] w fun e w' => e = .returned (.string ⟨(headS n width).toArray⟩) ∧ Below w.heap.size w w' := by
  by_cases hc : n < 0 ∨ 1000 < n ∨ width < 1 ∨ 200 < width
  · have hz : Hid (headS n width = []) := by show _ = _; rw [headS, if_pos hc]
    by_cases h1 : n < 0
    · clear hc
      go_enter Tryd.func13, Tryd.ntmps13
      go_wp2
      go_ret
      exact ⟨by rw [hz.out]; rfl, Below.refl _ _⟩
    · by_cases h2 : 1000 < n
      · clear hc
        go_enter Tryd.func13, Tryd.ntmps13
        go_wp2
        go_ret
        exact ⟨by rw [hz.out]; rfl, Below.refl _ _⟩
      · by_cases h3 : width < 1
        · clear hc
          go_enter Tryd.func13, Tryd.ntmps13
          go_wp2
          go_ret
          exact ⟨by rw [hz.out]; rfl, Below.refl _ _⟩
        · have h4 : 200 < width := by omega
          clear hc
          go_enter Tryd.func13, Tryd.ntmps13
          go_wp2
          go_ret
          exact ⟨by rw [hz.out]; rfl, Below.refl _ _⟩
  · obtain ⟨N, rfl⟩ : ∃ N : Nat, n = N := ⟨n.toNat, by omega⟩
    obtain ⟨W, rfl⟩ : ∃ W : Nat, width = W := ⟨width.toNat, by omega⟩
    have hz : headS N W = headL W N := by rw [headS, if_neg hc]; rfl
    rw [hz]
    exact head_any w N W (by omega) (by omega) (by omega)
end Go.Proofs.YtfcoigcenheefaaDoor
