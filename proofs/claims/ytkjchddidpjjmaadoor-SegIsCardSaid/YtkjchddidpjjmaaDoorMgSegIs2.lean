/- Texts of this seat in one file (Str, Addr, Ip4, Open, OpenS, Open6, OpenB, SixS, Erv, Ip6, Ip6e, Of, Or8, Store, Tail, Ip6d, Ip6l, SegP, SegL, AppL): contracts and plain laws. Conditions: as each lemma states them. -/
import Derived.Test.YtkjchddidpjjmaaDoorMgSegIs1
import Derived.Laws.BytesArg
import Derived.Laws.OwnMore
import Derived.WalkSpells
import Derived.Deep.RegionHeld3
import Derived.Deep.Slices
import Derived.Deep.DeepCutAuto
import Derived.Deep.DeepMust
import Derived.BigRegion
import Derived.Laws.Tables
import Derived.Laws.CopyOwn
import Derived.BigQuiet
import Derived.Deep.AppendLies
/- The text of bytes; bytes.Clone, bytes.Equal. Conditions: as each lemma states them. -/
namespace Go.Proofs.YtkjchddidpjjmaaDoor
open Go.RowKit

theorem conv_str {w : World} {a : Option Addr} {n c : Nat} {xs : List Int} (h : Ints .u8 w a n xs) : (convert 40 9 (.slice a n c)).run Tryd.prog w = .ok (.string (strOfNums xs)) w := by
  rcases Nat.eq_zero_or_pos n with hn | hn
  · subst hn
    obtain rfl : xs = [] := List.length_eq_zero_iff.1 h.len
    cases a with
    | none => exact run_convert_bytes_nil w _ _ Tryd.underlying40 Tryd.underlying5 0 c _ Tryd.underlying9
    | some ad =>
      obtain ⟨b, off, spot⟩ := ad
      have := run_convert_bytes_string (P := Tryd.prog) w 40 9 5 (some ⟨b, off, spot⟩) 0 c Tryd.underlying40 Tryd.underlying5 Tryd.underlying9
      rw [this]
      rfl
  · obtain ⟨b, off, rfl, _, hc⟩ := h.at hn
    exact run_convert_bytes_arg w _ _ Tryd.underlying40 Tryd.underlying5 b off n c xs h.len hc _ Tryd.underlying9

theorem byte_inj {x y : Int} (hx : 0 ≤ x ∧ x ≤ 255) (hy : 0 ≤ y ∧ y ≤ 255) (h : UInt8.ofNat x.toNat = UInt8.ofNat y.toNat) : x = y := by
  have := congrArg UInt8.toNat h
  simp at this
  omega
theorem str_inj : ∀ {xs ys : List Int}, Pl.IsB xs → Pl.IsB ys → strOfNums xs = strOfNums ys → xs = ys := by
  intro xs ys hx hy h
  have h1 : (xs.map fun n => UInt8.ofNat n.toNat) = ys.map fun n => UInt8.ofNat n.toNat := by
    have := congrArg (fun s : ByteArray => s.data.toList) h
    simpa [strOfNums] using this
  clear h
  induction xs generalizing ys with
  | nil => cases ys with
    | nil => rfl
    | cons y r => simp at h1
  | cons x r ih => cases ys with
    | nil => simp at h1
    | cons y s =>
      simp only [List.map_cons, List.cons.injEq] at h1
      rw [byte_inj (hx x (List.mem_cons_self ..)) (hy y (List.mem_cons_self ..)) h1.1, ih (fun z hz => hx z (List.mem_cons_of_mem _ hz)) (fun z hz => hy z (List.mem_cons_of_mem _ hz)) h1.2]
theorem str_ne {xs ys : List Int} (hx : Pl.IsB xs) (hy : Pl.IsB ys) (h : xs ≠ ys) : ((strOfNums xs).toList == (strOfNums ys).toList) = false := by
  rw [beq_eq_false_iff_ne, ByteArray.toList_eq, ByteArray.toList_eq]
  intro e
  refine h (str_inj hx hy ?_)
  have h2 : (strOfNums xs).data = (strOfNums ys).data := Array.ext' e
  generalize strOfNums xs = s at h2 ⊢
  generalize strOfNums ys = t at h2 ⊢
  cases s; cases t; cases h2; rfl

/-- bytes.Equal. -/
theorem equal_yes (a b : Option Addr) (n c m d : Nat) (xs : List Int) (w : World) (h1 : Ints .u8 w a n xs) (h2 : Ints .u8 w b m xs) :
    Calls Tryd.prog 71 #[.slice a n c, .slice b m d] w fun e w' => e = .returned (.bool true) ∧ w = w' := by
  have k1 := conv_str (c := c) h1
  have k2 := conv_str (c := d) h2
  generalize strOfNums xs = s at k1 k2
  clear h1 h2
  go_enter Tryd.func71, Tryd.ntmps71
  go_wp2
  go_ret
  exact ⟨rfl, rfl⟩
theorem equal_no (a b : Option Addr) (n c m d : Nat) (xs ys : List Int) (w : World) (h1 : Ints .u8 w a n xs) (h2 : Ints .u8 w b m ys) (hx : Pl.IsB xs) (hy : Pl.IsB ys) (hne : xs ≠ ys) :
    Calls Tryd.prog 71 #[.slice a n c, .slice b m d] w fun e w' => e = .returned (.bool false) ∧ w = w' := by
  have k1 := conv_str (c := c) h1
  have k2 := conv_str (c := d) h2
  have hs := str_ne hx hy hne
  generalize strOfNums xs = s at k1 hs
  generalize strOfNums ys = t at k2 hs
  clear h1 h2 hne
  go_enter Tryd.func71, Tryd.ntmps71
  go_wp2
  go_ret
  exact ⟨rfl, rfl⟩

/-- bytes.Clone. -/
theorem clone_any (a : Option Addr) (n c : Nat) (xs : List Int) (w : World) (h : Ints .u8 w a n xs) (hc : a = none → c = 0) (hn : n ≤ 1099511627776) :
    Calls Tryd.prog 57 #[.slice a n c] w fun e w' => ∃ v, e = .returned v ∧ Own w' w.heap.size v xs ∧ Below w.heap.size w w' := by
  cases a with
  | none =>
    obtain rfl : n = 0 := by
      rcases h.2 with h0 | ⟨b, off, h0, _⟩
      · exact h0
      · cases h0
    obtain rfl := hc rfl
    obtain rfl : xs = [] := List.length_eq_zero_iff.1 h.len
    clear h hc
    have q : ∀ (w : World) (a : Option Addr) (n c n' c' : Nat), (binOp .eql 40 (.slice a n c) (.slice none n' c')).run Tryd.prog w = .ok (.bool a.isNone) w := fun w a n c n' c' => Lib.run_eql_slice_nil w _ _ a n c n' c' Tryd.underlying40
    go_enter Tryd.func57, Tryd.ntmps57
    go_wp2
    go_ret
    exact ⟨_, rfl, Own.nil _ _, Below.refl _ _⟩
  | some ad =>
    clear hc
    have H := Lib.hid h
    clear h
    have q : ∀ (w : World) (a : Option Addr) (n c n' c' : Nat), (binOp .eql 40 (.slice a n c) (.slice none n' c')).run Tryd.prog w = .ok (.bool a.isNone) w := fun w a n c n' c' => Lib.run_eql_slice_nil w _ _ a n c n' c' Tryd.underlying40
    go_enter Tryd.func57, Tryd.ntmps57
    go_wp2_with (at_builtin; refine Halt.out ?_)
    refine Halt.mk ?_
    have hb : Below w.heap.size w (w.alloc (.cells #[] 5)) := by go_grown
    refine app rfl _ _ rfl w.heap.size _ [] rfl (Own.built w _ #[] [] 0 rfl rfl (Nat.le_refl _) (by simp)) (some ad) n c xs rfl (H.out.below hb) (by simp; omega) (by simp) ?_
    intro v W ho hb2
    go_wp2
    go_ret
    exact ⟨v, rfl, by simpa using ho, hb.trans hb2⟩
end Go.Proofs.YtkjchddidpjjmaaDoor
/- The contracts of package addr on fours and on bytes. Conditions: as each theorem states them. -/
namespace Go.Proofs.YtkjchddidpjjmaaDoor
open Go.RowKit

namespace Pl
/-- Is a number a four? -/
def isFour (a : Int) : Bool := decide (0 ≤ a ∧ a < 4294967296)
/-- The bytes of a four. -/
def four (a : Int) : List Int := [a / 16777216, a / 65536 % 256, a / 256 % 256, a % 256]
theorem four_isB {a : Int} (h0 : 0 ≤ a) (h1 : a < 4294967296) : IsB (four a) := by
  unfold four
  exact .cons (by omega) (by omega) (.cons (by omega) (by omega) (.cons (by omega) (by omega) (.cons (by omega) (by omega) .nil)))
end Pl

theorem is_yes (a : Int) (w : World) (h0 : 0 ≤ a) (h1 : a < 4294967296) :
    Calls Tryd.prog 53 #[.int .i64 a] w fun e w' => e = .returned (.bool true) ∧ w = w' := by
  go_enter Tryd.func53, Tryd.ntmps53
  go_wp2
  go_ret
  exact ⟨rfl, rfl⟩
theorem is_no (a : Int) (w : World) (h : ¬ (0 ≤ a ∧ a < 4294967296)) :
    Calls Tryd.prog 53 #[.int .i64 a] w fun e w' => e = .returned (.bool false) ∧ w = w' := by
  by_cases h0 : 0 ≤ a
  · have h1 : ¬ a < 4294967296 := fun h1 => h ⟨h0, h1⟩
    clear h
    go_enter Tryd.func53, Tryd.ntmps53
    go_wp2
    go_ret
    exact ⟨rfl, rfl⟩
  · clear h
    go_enter Tryd.func53, Tryd.ntmps53
    go_wp2
    go_ret
    exact ⟨rfl, rfl⟩

theorem raw4_any (a : Int) (w : World) (h0 : 0 ≤ a) (h1 : a < 4294967296) :
    Calls Tryd.prog 54 #[.int .i64 a] w fun e w' => ∃ v, e = .returned v ∧ Own w' w.heap.size v (Pl.four a) ∧ Below w.heap.size w w' := by
  have e1 : IntKind.u8.wrap (a / 16777216) = a / 16777216 := IntWalk.u8_in _ (by omega)
  have e2 : IntKind.u8.wrap (a / 65536) = a / 65536 % 256 := by rw [IntKind.wrap_u8]
  have e3 : IntKind.u8.wrap (a / 256) = a / 256 % 256 := by rw [IntKind.wrap_u8]
  have e4 : IntKind.u8.wrap a = a % 256 := by rw [IntKind.wrap_u8]
  go_enter Tryd.func54, Tryd.ntmps54
  go_wp2
  go_ret
  exact ⟨_, rfl, Own.built w _ _ _ 4 rfl rfl (Nat.le_refl _) (by simp [Pl.four]), by go_grown⟩
end Go.Proofs.YtkjchddidpjjmaaDoor
/- The contracts of package ip4. Conditions: as each theorem states them. -/
namespace Go.Proofs.YtkjchddidpjjmaaDoor
open Go.RowKit

/-- A packet as a value. -/
def pk4 (s d t k i : Int) (b : Value) : Value := .agg #[.int .i64 s, .int .i64 d, .int .i64 t, .int .i64 k, .int .i64 i, b]
namespace Pl
/-- Are a packet's numbers such that may be? -/
def Ok4 (s d t k i : Int) : Prop := (0 ≤ s ∧ s < 4294967296) ∧ (0 ≤ d ∧ d < 4294967296) ∧ (0 ≤ t ∧ t ≤ 255) ∧ (0 ≤ k ∧ k ≤ 255) ∧ (0 ≤ i ∧ i ≤ 65535)
end Pl

set_option maxHeartbeats 800000 in
theorem check4_ok (s d t k i : Int) (a : Option Addr) (n c : Nat) (w : World) (h : Pl.Ok4 s d t k i) (hn : n ≤ 320) :
    Calls Tryd.prog 84 #[pk4 s d t k i (.slice a n c)] w fun e w' => e = .returned .nilIface ∧ Below w.heap.size w w' := by
  obtain ⟨⟨s0, s1⟩, ⟨d0, d1⟩, ⟨t0, t1⟩, ⟨k0, k1⟩, ⟨i0, i1⟩⟩ := h
  unfold pk4
  go_enter Tryd.func84, Tryd.ntmps84
  go_wp2_with (go_at_call 53; refine (is_yes _ _ (by assumption) (by assumption)).mono ?_; rintro e w' ⟨rfl, rfl⟩)
  go_ret
  exact ⟨rfl, by go_grown⟩
set_option maxHeartbeats 800000 in
theorem check4_full (s d t k i : Int) (a : Option Addr) (n c : Nat) (w : World) (h : Pl.Ok4 s d t k i) (hn : 320 < n) :
    Calls Tryd.prog 84 #[pk4 s d t k i (.slice a n c)] w fun e w' => e = .returned (errv 3) ∧ Below w.heap.size w w' := by
  obtain ⟨⟨s0, s1⟩, ⟨d0, d1⟩, ⟨t0, t1⟩, ⟨k0, k1⟩, ⟨i0, i1⟩⟩ := h
  unfold pk4
  go_enter Tryd.func84, Tryd.ntmps84
  go_wp2_with (go_at_call 53; refine (is_yes _ _ (by assumption) (by assumption)).mono ?_; rintro e w' ⟨rfl, rfl⟩)
  go_ret
  exact ⟨rfl, by go_grown⟩
set_option maxHeartbeats 1600000 in
theorem check4_range (s d t k i : Int) (a : Option Addr) (n c : Nat) (w : World) (h : ¬ Pl.Ok4 s d t k i) :
    Calls Tryd.prog 84 #[pk4 s d t k i (.slice a n c)] w fun e w' => e = .returned (errv 1) ∧ Below w.heap.size w w' := by
  have H := Lib.hid h
  clear h
  unfold pk4
  by_cases hs : 0 ≤ s ∧ s < 4294967296
  case neg =>
    have HS := Lib.hid hs
    clear hs
    go_enter Tryd.func84, Tryd.ntmps84
    go_wp2_with (go_at_call 53; refine (is_no _ _ HS.out).mono ?_; rintro e w' ⟨rfl, rfl⟩)
    go_ret
    exact ⟨rfl, by go_grown⟩
  by_cases hd : 0 ≤ d ∧ d < 4294967296
  case neg =>
    have HS := Lib.hid hd
    have HT := Lib.hid hs
    clear hs hd
    go_enter Tryd.func84, Tryd.ntmps84
    go_wp2_with (go_at_call 53; first | ((with_reducible refine (is_no d _ HS.out).mono ?_); rintro e w' ⟨rfl, rfl⟩) | ((with_reducible refine (is_yes s _ HT.out.1 HT.out.2).mono ?_); rintro e w' ⟨rfl, rfl⟩))
    go_ret
    exact ⟨rfl, by go_grown⟩
  obtain ⟨s0, s1⟩ := hs
  obtain ⟨d0, d1⟩ := hd
  by_cases ht0 : 0 ≤ t
  case neg =>
    go_enter Tryd.func84, Tryd.ntmps84
    go_wp2_with (go_at_call 53; refine (is_yes _ _ (by assumption) (by assumption)).mono ?_; rintro e w' ⟨rfl, rfl⟩)
    go_ret
    exact ⟨rfl, by go_grown⟩
  by_cases ht1 : t ≤ 255
  case neg =>
    go_enter Tryd.func84, Tryd.ntmps84
    go_wp2_with (go_at_call 53; refine (is_yes _ _ (by assumption) (by assumption)).mono ?_; rintro e w' ⟨rfl, rfl⟩)
    go_ret
    exact ⟨rfl, by go_grown⟩
  by_cases hk0 : 0 ≤ k
  case neg =>
    go_enter Tryd.func84, Tryd.ntmps84
    go_wp2_with (go_at_call 53; refine (is_yes _ _ (by assumption) (by assumption)).mono ?_; rintro e w' ⟨rfl, rfl⟩)
    go_ret
    exact ⟨rfl, by go_grown⟩
  by_cases hk1 : k ≤ 255
  case neg =>
    go_enter Tryd.func84, Tryd.ntmps84
    go_wp2_with (go_at_call 53; refine (is_yes _ _ (by assumption) (by assumption)).mono ?_; rintro e w' ⟨rfl, rfl⟩)
    go_ret
    exact ⟨rfl, by go_grown⟩
  by_cases hi0 : 0 ≤ i
  case neg =>
    go_enter Tryd.func84, Tryd.ntmps84
    go_wp2_with (go_at_call 53; refine (is_yes _ _ (by assumption) (by assumption)).mono ?_; rintro e w' ⟨rfl, rfl⟩)
    go_ret
    exact ⟨rfl, by go_grown⟩
  have hi1 : ¬ i ≤ 65535 := fun hi1 => H.out ⟨⟨s0, s1⟩, ⟨d0, d1⟩, ⟨ht0, ht1⟩, ⟨hk0, hk1⟩, ⟨hi0, hi1⟩⟩
  go_enter Tryd.func84, Tryd.ntmps84
  go_wp2_with (go_at_call 53; refine (is_yes _ _ (by assumption) (by assumption)).mono ?_; rintro e w' ⟨rfl, rfl⟩)
  go_ret
  exact ⟨rfl, by go_grown⟩
end Go.Proofs.YtkjchddidpjjmaaDoor
/- What an argument that is a struct is, once it is read: each number and slice in it. Conditions: as each lemma states them. -/
namespace Go.Proofs.YtkjchddidpjjmaaDoor
open Go.ChangeShapes Go.WideShapes Go.ChangeAt Go.RowKit

section
variable {H : Type} {enc : TypeId × Value → H} {W : World}

theorem open_field_int {n : Nat} {t : TypeId} (ht : Tryd.prog.underlying t = some (.int .i64)) {c : Value} {y : Option (DataW H × List MemPlace)} (hy : y.isSome = true) (h : DataW.trod enc Tryd.prog W 0 (fun _ => true) true n t [c] = y) : ∃ x, c = .int .i64 x ∧ IsInt x := by
  obtain ⟨y, rfl⟩ := Option.isSome_iff_exists.1 hy
  obtain ⟨x, hx, _, hw⟩ := DataW.trod_int ht h
  exact ⟨x, by simpa using hx, wf_i64 hw⟩
theorem open_field_bytes {n : Nat} {c : Value} {y : Option (DataW H × List MemPlace)} (hy : y.isSome = true) (h : DataW.trod enc Tryd.prog W 0 (fun _ => true) true n 40 [c] = y) : ∃ a l k xs, c = .slice a l k ∧ IsBytes W a l k xs ∧ (a = none → k = 0) := by
  obtain ⟨y, rfl⟩ := Option.isSome_iff_exists.1 hy
  rcases open_ints Tryd.underlying40 Tryd.underlying5 (by kernel_rfl) h with ⟨hcs, _⟩ | ⟨x, l, c', zs, hcs, _, hl, hm, hz, _, hcell, hwz⟩
  · obtain rfl : c = .slice none 0 0 := by simpa using hcs
    exact ⟨none, 0, 0, [], rfl, ⟨Ints.nil, Pl.IsB.nil, Nat.le_refl _, Nat.zero_le _⟩, fun _ => rfl⟩
  · obtain rfl : c = .slice (some x) l c' := by simpa using hcs
    exact ⟨some x, l, c', zs.take l, rfl, ⟨ints_of_cells hl (by simpa using hz) hcell, fun y hy => wf_u8 (hwz y (List.mem_of_mem_take hy)), hl, hm⟩, fun h => by cases h⟩

theorem isSome_of_len {α : Type} {xs : List α} {n j : Nat} (h : xs.length = n) (hj : j < n) : (xs[j]?).isSome = true := by
  rw [List.getElem?_eq_getElem (by omega)]; rfl

set_option maxRecDepth 100000 in
/-- A packet of fours that came in. -/
theorem open_pack4 {v : Value} {d : DataW H} {p : List MemPlace} {base : Nat} (hv : Value.okWide Tryd.prog W .any base 74 v) (h : DataW.Trod enc Tryd.prog W 0 (fun _ => true) true 74 v d p) :
    ∃ s d t k i a l c xs, v = pk4 s d t k i (.slice a l c) ∧ (IsInt s ∧ IsInt d ∧ IsInt t ∧ IsInt k ∧ IsInt i) ∧ IsBytes W a l c xs ∧ (a = none → c = 0) := by
  obtain ⟨cs, rfl, hsz⟩ := okWide_struct Tryd.underlying74 hv
  obtain ⟨l⟩ := cs
  have hC : Tryd.prog.cellsOf 74 = 6 := by kernel_rfl
  have hI : Tryd.prog.cellsOf 3 = 1 := by kernel_rfl
  have hB : Tryd.prog.cellsOf 40 = 1 := by kernel_rfl
  match l, hsz.trans hC with
  | [c0, c1, c2, c3, c4, c5], _ =>
    obtain ⟨fuel, hf⟩ := h
    obtain ⟨xs, n, _, _, _, hlen, hg⟩ := DataW.trod_struct Tryd.underlying74 hf
    have e0 : DataW.trod enc Tryd.prog W 0 (fun _ => true) true n 3 [c0] = xs[0]? := by simpa [Value.cells, hI] using hg 0 _ rfl
    have e1 : DataW.trod enc Tryd.prog W 0 (fun _ => true) true n 3 [c1] = xs[1]? := by simpa [Value.cells, hI] using hg 1 _ rfl
    have e2 : DataW.trod enc Tryd.prog W 0 (fun _ => true) true n 3 [c2] = xs[2]? := by simpa [Value.cells, hI] using hg 2 _ rfl
    have e3 : DataW.trod enc Tryd.prog W 0 (fun _ => true) true n 3 [c3] = xs[3]? := by simpa [Value.cells, hI] using hg 3 _ rfl
    have e4 : DataW.trod enc Tryd.prog W 0 (fun _ => true) true n 3 [c4] = xs[4]? := by simpa [Value.cells, hI] using hg 4 _ rfl
    have e5 : DataW.trod enc Tryd.prog W 0 (fun _ => true) true n 40 [c5] = xs[5]? := by simpa [Value.cells, hB] using hg 5 _ rfl
    obtain ⟨x0, rfl, i0⟩ := open_field_int Tryd.underlying3 (isSome_of_len hlen (by simp)) e0
    obtain ⟨x1, rfl, i1⟩ := open_field_int Tryd.underlying3 (isSome_of_len hlen (by simp)) e1
    obtain ⟨x2, rfl, i2⟩ := open_field_int Tryd.underlying3 (isSome_of_len hlen (by simp)) e2
    obtain ⟨x3, rfl, i3⟩ := open_field_int Tryd.underlying3 (isSome_of_len hlen (by simp)) e3
    obtain ⟨x4, rfl, i4⟩ := open_field_int Tryd.underlying3 (isSome_of_len hlen (by simp)) e4
    obtain ⟨a, m, k, ys, rfl, hy, hn⟩ := open_field_bytes (isSome_of_len hlen (by simp)) e5
    exact ⟨x0, x1, x2, x3, x4, a, m, k, ys, rfl, ⟨i0, i1, i2, i3, i4⟩, hy, hn⟩
end
end Go.Proofs.YtkjchddidpjjmaaDoor
/- What an argument is, once it is read: lists of segments. Conditions: as each lemma states them. -/
namespace Go.Proofs.YtkjchddidpjjmaaDoor
open Go.ChangeShapes Go.WideShapes Go.ChangeAt Go.RowKit

/-- A segment and where its bytes lie. -/
structure Sd where
  s : Sg
  a : Option Addr
  n : Nat
  c : Nat
  xs : List Int
def Sd.d (x : Sd) : Value := .slice x.a x.n x.c
instance : Inhabited Sd := ⟨⟨⟨0, 0, 0, 0, 0, 0, 0⟩, none, 0, 0, []⟩⟩
def Sd.Is (w : World) (x : Sd) : Prop := IsBytes w x.a x.n x.c x.xs ∧ (x.a = none → x.c = 0) ∧ IsInt x.s.kind ∧ IsInt x.s.frm ∧ IsInt x.s.to ∧ IsInt x.s.seq ∧ IsInt x.s.ack ∧ IsInt x.s.flags ∧ IsInt x.s.win
/-- Segments that came in. -/
def IsSegs (w : World) (a : Option Addr) (n c : Nat) (ss : List Sd) : Prop :=
  ss.length = n ∧ n ≤ c ∧ c ≤ maxLen ∧ (n = 0 ∨ ∃ b off, a = some ⟨b, off, none⟩ ∧ ∀ i, i < n → (ss.getD i default).Is w ∧ ∀ j, j < 8 → w.cell? ⟨b, off + (i * 8 + j), none⟩ = ((ss.getD i default).s.cells (ss.getD i default).d)[j]?)

section
variable {H : Type} {enc : TypeId × Value → H} {W : World}
theorem Tryd.cellsIntS : Tryd.prog.cellsOf 3 = 1 := by kernel_rfl
theorem Tryd.cellsBytes : Tryd.prog.cellsOf 40 = 1 := by kernel_rfl
theorem Tryd.cellsSeg : Tryd.prog.cellsOf 50 = 8 := by kernel_rfl
/-- A slice of bytes that came in; nil has no room. -/
theorem open_bytesz {a : Option Addr} {n c : Nat} {d : DataW H} {p : List MemPlace}
    (h : DataW.Trod enc Tryd.prog W 0 (fun _ => true) true 40 (.slice a n c) d p) : ∃ xs, IsBytes W a n c xs ∧ (a = none → c = 0) := by
  obtain ⟨fuel, hf⟩ := h
  obtain ⟨a', l, k, xs, hv, hb, hn⟩ := open_field_bytes rfl (by simpa [Value.cells] using hf)
  obtain ⟨rfl, rfl, rfl⟩ : a = a' ∧ n = l ∧ c = k := by simpa using hv
  exact ⟨xs, hb, hn⟩
/-- Numbers that came in. -/
def IsIntsl (w : World) (a : Option Addr) (n c : Nat) (xs : List Int) : Prop := Ints .i64 w a n xs ∧ (∀ x ∈ xs, IsInt x) ∧ n ≤ c ∧ c ≤ maxLen
theorem open_intsl {a : Option Addr} {n c : Nat} {d : DataW H} {p : List MemPlace}
    (h : DataW.Trod enc Tryd.prog W 0 (fun _ => true) true 107 (.slice a n c) d p) : ∃ xs, IsIntsl W a n c xs := by
  obtain ⟨fuel, hf⟩ := h
  rcases open_ints Tryd.underlying107 Tryd.underlying3 (by kernel_rfl) hf with ⟨hcs, _⟩ | ⟨x, l, c', zs, hcs, _, hl, hm, hz, _, hcell, hwz⟩
  · simp [Value.cells] at hcs
    obtain ⟨rfl, rfl, rfl⟩ := hcs
    exact ⟨[], Ints.nil, (by simp), Nat.le_refl _, Nat.zero_le _⟩
  · simp [Value.cells] at hcs
    obtain ⟨rfl, rfl, rfl⟩ := hcs
    exact ⟨zs.take n, ints_of_cells hl (by simpa using hz) hcell, fun y hy => wf_i64 (hwz y (List.mem_of_mem_take hy)), hl, hm⟩
set_option maxRecDepth 100000 in
theorem open_segs {a : Option Addr} {n c : Nat} {d : DataW H} {p : List MemPlace}
    (h : DataW.Trod enc Tryd.prog W 0 (fun _ => true) true 41 (.slice a n c) d p) : ∃ ss, IsSegs W a n c ss := by
  obtain ⟨fuel, hf⟩ := h
  rcases Go.Deep.open_slice Tryd.underlying41 hf with ⟨hcs, _⟩ | ⟨x, l, c', m, n', D, P, hcs, _, hl, hm, hmm, _, hx⟩
  · simp [Value.cells] at hcs
    obtain ⟨rfl, rfl, rfl⟩ := hcs
    exact ⟨[], rfl, Nat.le_refl _, Nat.zero_le _, .inl rfl⟩
  · simp [Value.cells] at hcs
    obtain ⟨rfl, rfl, rfl⟩ := hcs
    simp only [if_true] at hmm
    subst hmm
    obtain ⟨b, off, spot⟩ := x
    have key : ∀ i, i < m → ∃ y : Sd, y.Is W ∧ ∀ j, j < 8 → W.cell? ((Addr.mk b off spot).add (i * 8 + j)) = (y.s.cells y.d)[j]? := fun i hi => by
      obtain ⟨cs', hc', ht⟩ := hx i hi
      rw [Tryd.cellsSeg] at hc'
      obtain ⟨xs, q, _, _, hl', hlen, hg⟩ := DataW.trod_struct Tryd.underlying50 ht
      obtain ⟨_, hcl, hat⟩ := World.cells?_some hc'
      match cs', hl'.trans Tryd.cellsSeg with
      | [c0, c1, c2, c3, c4, c5, c6, c7], _ =>
        obtain ⟨x0, rfl, i0⟩ := open_field_int Tryd.underlying3 (isSome_of_len (j := 0) hlen (by simp)) (by simpa [Tryd.cellsIntS] using hg 0 _ rfl)
        obtain ⟨x1, rfl, i1⟩ := open_field_int Tryd.underlying3 (isSome_of_len (j := 1) hlen (by simp)) (by simpa [Tryd.cellsIntS] using hg 1 _ rfl)
        obtain ⟨x2, rfl, i2⟩ := open_field_int Tryd.underlying3 (isSome_of_len (j := 2) hlen (by simp)) (by simpa [Tryd.cellsIntS] using hg 2 _ rfl)
        obtain ⟨x3, rfl, i3⟩ := open_field_int Tryd.underlying3 (isSome_of_len (j := 3) hlen (by simp)) (by simpa [Tryd.cellsIntS] using hg 3 _ rfl)
        obtain ⟨x4, rfl, i4⟩ := open_field_int Tryd.underlying3 (isSome_of_len (j := 4) hlen (by simp)) (by simpa [Tryd.cellsIntS] using hg 4 _ rfl)
        obtain ⟨x5, rfl, i5⟩ := open_field_int Tryd.underlying3 (isSome_of_len (j := 5) hlen (by simp)) (by simpa [Tryd.cellsIntS] using hg 5 _ rfl)
        obtain ⟨x6, rfl, i6⟩ := open_field_int Tryd.underlying3 (isSome_of_len (j := 6) hlen (by simp)) (by simpa [Tryd.cellsIntS] using hg 6 _ rfl)
        obtain ⟨a', m', k', ys, rfl, hy, hn⟩ := open_field_bytes (isSome_of_len (j := 7) hlen (by simp)) (by simpa [Tryd.cellsBytes] using hg 7 _ rfl)
        refine ⟨⟨⟨x0, x1, x2, x3, x4, x5, x6⟩, a', m', k', ys⟩, ⟨hy, hn, i0, i1, i2, i3, i4, i5, i6⟩, fun j hj => ?_⟩
        rw [← Go.Deep.add_add, hat j hj]
        simp [Sg.cells, Sd.d]
    obtain ⟨F, hF⟩ := Go.Deep.choose_lt key
    refine ⟨(List.range n).map F, by simp, hl, hm, ?_⟩
    rcases Nat.eq_zero_or_pos n with h0 | h0
    · exact .inl h0
    · refine .inr ?_
      have hspot : spot = none := by
        have := (hF 0 (by omega)).2 0 (by omega)
        simpa [Addr.add] using World.cell?_spot this
      subst hspot
      refine ⟨b, off, rfl, fun i hi => ?_⟩
      have e : ((List.range n).map F).getD i default = F i := by simp [List.getD, hi]
      rw [e]
      have q := hF i (by omega)
      exact ⟨q.1, fun j hj => by have := q.2 j hj; rw [Addr.add_lit] at this; exact this⟩
end

theorem IsBytes.ext {w w' : World} {a : Option Addr} {n c : Nat} {xs : List Int} (h : IsBytes w a n c xs) (k : Ext w w') : IsBytes w' a n c xs := ⟨h.1.ext k, h.2.1, h.2.2.1, h.2.2.2⟩
/-- One of them, in a later world. -/
theorem IsSegs.at {w w' : World} {a : Option Addr} {n c : Nat} {ss : List Sd} (h : IsSegs w a n c ss) (k : Ext w w') (hn : 0 < n) :
    ∃ b off, a = some ⟨b, off, none⟩ ∧ b < w.heap.size ∧ ∀ i, i < n → (ss.getD i default).Is w' ∧ ∀ j, j < 8 → w'.cell? ⟨b, off + (i * 8 + j), none⟩ = ((ss.getD i default).s.cells (ss.getD i default).d)[j]? := by
  obtain ⟨_, _, _, h0 | ⟨b, off, rfl, hc⟩⟩ := h
  · omega
  have hb : b < w.heap.size := by
    have := (hc 0 hn).2 0 (by omega)
    exact World.block_lt_of_cell? w _ (this.trans (by simp [Sg.cells]; rfl))
  refine ⟨b, off, rfl, hb, fun i hi => ⟨⟨(hc i hi).1.1.ext k, (hc i hi).1.2⟩, fun j hj => ?_⟩⟩
  rw [World.cell?_of_block (Below.block k b hb)]
  exact (hc i hi).2 j hj
/-- A whole segment, loaded. -/
theorem load_seg {w : World} {b off : Nat} (s : Sg) (d : Value) (h : ∀ j, j < 8 → w.cell? ⟨b, off + j, none⟩ = (s.cells d)[j]?) :
    (Instr.loadAt 50 (.pointer (some ⟨b, off, none⟩))).run Tryd.prog w = .ok (.agg (s.cells d)) w := by
  have := run_loadAt_mid (P := Tryd.prog) w b off 50 (s.cells d).toList _ (fun j v hv => by
    rw [Array.getElem?_toList] at hv
    rw [h j (by have := (Array.getElem?_eq_some_iff.1 hv).1; simpa [Sg.cells] using this)]; exact hv) Tryd.underlying50 rfl Tryd.sizeSeg
  rw [Array.toArray_toList] at this
  exact this
end Go.Proofs.YtkjchddidpjjmaaDoor
/- What an argument is, once it is read: an address. Conditions: as each lemma states them. -/
namespace Go.Proofs.YtkjchddidpjjmaaDoor
open Go.ChangeShapes Go.WideShapes Go.ChangeAt Go.RowKit

def Six.Is (s : Six) : Prop := ∀ k, IsInt (s.l.getD k 0)

section
variable {H : Type} {enc : TypeId × Value → H} {W : World}

theorem open_cell_int {n : Nat} {c : Value} {y : Option (DataW H × List MemPlace)} (hy : y.isSome = true) (h : DataW.trod enc Tryd.prog W 0 (fun _ => true) true n 3 [c] = y) : ∃ x, c = .int .i64 x ∧ IsInt x := by
  obtain ⟨y, rfl⟩ := Option.isSome_iff_exists.1 hy
  obtain ⟨x, hx, _, hw⟩ := DataW.trod_int Tryd.underlying3 h
  exact ⟨x, by simpa using hx, wf_i64 hw⟩
theorem isSome_at {α : Type} {xs : List α} {n j : Nat} (h : xs.length = n) (hj : j < n) : (xs[j]?).isSome = true := by
  rw [List.getElem?_eq_getElem (by omega)]; rfl

theorem Tryd.cellsInt : Tryd.prog.cellsOf 3 = 1 := by kernel_rfl
theorem Tryd.cellsSix : Tryd.prog.cellsOf 23 = 8 := by kernel_rfl

set_option maxRecDepth 100000 in
theorem open_cells_six {n : Nat} {cs : List Value} {y : Option (DataW H × List MemPlace)} (hy : y.isSome = true) (h : DataW.trod enc Tryd.prog W 0 (fun _ => true) true n 23 cs = y) : ∃ s : Six, cs = s.cells.toList ∧ s.Is := by
  obtain ⟨y, rfl⟩ := Option.isSome_iff_exists.1 hy
  obtain ⟨xs, m, _, _, hl, hlen, hg⟩ := DataW.trod_array Tryd.underlying23 h
  match cs, hl.trans Tryd.cellsSix with
  | [c0, c1, c2, c3, c4, c5, c6, c7], _ =>
    obtain ⟨x0, rfl, i0⟩ := open_cell_int (isSome_at (j := 0) hlen (by omega)) (by simpa [Tryd.cellsInt] using hg 0 (by omega))
    obtain ⟨x1, rfl, i1⟩ := open_cell_int (isSome_at (j := 1) hlen (by omega)) (by simpa [Tryd.cellsInt] using hg 1 (by omega))
    obtain ⟨x2, rfl, i2⟩ := open_cell_int (isSome_at (j := 2) hlen (by omega)) (by simpa [Tryd.cellsInt] using hg 2 (by omega))
    obtain ⟨x3, rfl, i3⟩ := open_cell_int (isSome_at (j := 3) hlen (by omega)) (by simpa [Tryd.cellsInt] using hg 3 (by omega))
    obtain ⟨x4, rfl, i4⟩ := open_cell_int (isSome_at (j := 4) hlen (by omega)) (by simpa [Tryd.cellsInt] using hg 4 (by omega))
    obtain ⟨x5, rfl, i5⟩ := open_cell_int (isSome_at (j := 5) hlen (by omega)) (by simpa [Tryd.cellsInt] using hg 5 (by omega))
    obtain ⟨x6, rfl, i6⟩ := open_cell_int (isSome_at (j := 6) hlen (by omega)) (by simpa [Tryd.cellsInt] using hg 6 (by omega))
    obtain ⟨x7, rfl, i7⟩ := open_cell_int (isSome_at (j := 7) hlen (by omega)) (by simpa [Tryd.cellsInt] using hg 7 (by omega))
    refine ⟨⟨x0, x1, x2, x3, x4, x5, x6, x7⟩, rfl, fun k => ?_⟩
    match k with
    | 0 => exact i0
    | 1 => exact i1
    | 2 => exact i2
    | 3 => exact i3
    | 4 => exact i4
    | 5 => exact i5
    | 6 => exact i6
    | 7 => exact i7
    | k + 8 => simp [Six.l, IsInt]

set_option maxRecDepth 100000 in
/-- An address that came in. -/
theorem open_six {v : Value} {d : DataW H} {p : List MemPlace} {base : Nat} (hv : Value.okWide Tryd.prog W .any base 23 v) (h : DataW.Trod enc Tryd.prog W 0 (fun _ => true) true 23 v d p) : ∃ s : Six, v = s.v ∧ s.Is := by
  obtain ⟨fuel, hf⟩ := h
  obtain ⟨s, hs, hi⟩ := open_cells_six rfl hf
  simp only [Value.okWide, Tryd.underlying23] at hv
  obtain ⟨cs, rfl, _⟩ := hv
  refine ⟨s, ?_, hi⟩
  have : cs.toList = s.cells.toList := by simpa [Value.cells] using hs
  rw [Array.toList_inj.1 this]

end
end Go.Proofs.YtkjchddidpjjmaaDoor
/- What an argument is, once it is read: a segment; a list of truths. Conditions: as each lemma states them. -/
namespace Go.Proofs.YtkjchddidpjjmaaDoor
open Go.ChangeShapes Go.WideShapes Go.ChangeAt Go.RowKit

/-- Truths that came in. -/
def IsBools (w : World) (a : Option Addr) (n : Nat) (bs : List Bool) : Prop :=
  bs.length = n ∧ n ≤ maxLen ∧ (n = 0 ∨ ∃ b off, a = some ⟨b, off, none⟩ ∧ b < w.heap.size ∧ ∀ i, i < n → w.cell? ⟨b, off + i, none⟩ = some (.bool (bs.getD i false)))
section
theorem Tryd.cellsTruth : Tryd.prog.cellsOf 4 = 1 := by kernel_rfl
variable {H : Type} {enc : TypeId × Value → H} {W : World}
theorem open_cell_truth {n : Nat} {c : Value} {y : Option (DataW H × List MemPlace)} (hy : y.isSome = true) (h : DataW.trod enc Tryd.prog W 0 (fun _ => true) true n 4 [c] = y) : ∃ x, c = .bool x := by
  obtain ⟨y, rfl⟩ := Option.isSome_iff_exists.1 hy
  obtain ⟨x, hx, _⟩ := DataW.trod_bool Tryd.underlying4 h
  exact ⟨x, by simpa using hx⟩
set_option maxRecDepth 100000 in
theorem open_bools {a : Option Addr} {n c : Nat} {d : DataW H} {p : List MemPlace}
    (h : DataW.Trod enc Tryd.prog W 0 (fun _ => true) true 42 (.slice a n c) d p) : ∃ bs, IsBools W a n bs := by
  obtain ⟨fuel, hf⟩ := h
  rcases Go.Deep.open_slice Tryd.underlying42 hf with ⟨hcs, _⟩ | ⟨x, l, c', m, n', D, P, hcs, _, hl, hm, hmm, _, hx⟩
  · simp [Value.cells] at hcs
    obtain ⟨rfl, rfl, rfl⟩ := hcs
    exact ⟨[], rfl, Nat.zero_le _, .inl rfl⟩
  · simp [Value.cells] at hcs
    obtain ⟨rfl, rfl, rfl⟩ := hcs
    simp only [if_true] at hmm
    subst hmm
    obtain ⟨b, off, spot⟩ := x
    have key : ∀ i, i < m → ∃ y : Bool, W.cell? ((Addr.mk b off spot).add i) = some (.bool y) := fun i hi => by
      obtain ⟨cs', hc', ht⟩ := hx i hi
      rw [Tryd.cellsTruth] at hc'
      obtain ⟨_, hcl, hat⟩ := World.cells?_some hc'
      match cs', hcl with
      | [c0], _ =>
        obtain ⟨y, rfl⟩ := open_cell_truth rfl ht
        refine ⟨y, ?_⟩
        have := hat 0 (by omega)
        rw [Go.Deep.add_add] at this
        simpa using this
    obtain ⟨F, hF⟩ := Go.Deep.choose_lt key
    refine ⟨(List.range n).map F, by simp, by omega, ?_⟩
    rcases Nat.eq_zero_or_pos n with h0 | h0
    · exact .inl h0
    · refine .inr ?_
      have hspot : spot = none := by
        have := hF 0 (by omega)
        simpa [Addr.add] using World.cell?_spot this
      subst hspot
      refine ⟨b, off, rfl, ?_, fun i hi => ?_⟩
      · have := hF 0 (by omega)
        exact World.block_lt_of_cell? W _ this
      have e : ((List.range n).map F).getD i false = F i := by simp [List.getD, hi]
      rw [e]
      have q := hF i (by omega)
      rw [Addr.add_lit] at q
      exact q
set_option maxRecDepth 100000 in
/-- A segment that came in. -/
theorem open_seg {v : Value} {d : DataW H} {p : List MemPlace} {base : Nat} (hv : Value.okWide Tryd.prog W .any base 50 v) (h : DataW.Trod enc Tryd.prog W 0 (fun _ => true) true 50 v d p) :
    ∃ (s : Sg) (a : Option Addr) (l c : Nat) (xs : List Int), v = s.v (.slice a l c) ∧ Sd.Is W ⟨s, a, l, c, xs⟩ := by
  obtain ⟨cs, rfl, hsz⟩ := okWide_struct Tryd.underlying50 hv
  obtain ⟨l⟩ := cs
  match l, hsz.trans Tryd.cellsSeg with
  | [c0, c1, c2, c3, c4, c5, c6, c7], _ =>
    obtain ⟨fuel, hf⟩ := h
    obtain ⟨xs, n, _, _, _, hlen, hg⟩ := DataW.trod_struct Tryd.underlying50 hf
    obtain ⟨x0, rfl, i0⟩ := open_field_int Tryd.underlying3 (isSome_of_len (j := 0) hlen (by simp)) (by simpa [Value.cells, Tryd.cellsIntS] using hg 0 _ rfl)
    obtain ⟨x1, rfl, i1⟩ := open_field_int Tryd.underlying3 (isSome_of_len (j := 1) hlen (by simp)) (by simpa [Value.cells, Tryd.cellsIntS] using hg 1 _ rfl)
    obtain ⟨x2, rfl, i2⟩ := open_field_int Tryd.underlying3 (isSome_of_len (j := 2) hlen (by simp)) (by simpa [Value.cells, Tryd.cellsIntS] using hg 2 _ rfl)
    obtain ⟨x3, rfl, i3⟩ := open_field_int Tryd.underlying3 (isSome_of_len (j := 3) hlen (by simp)) (by simpa [Value.cells, Tryd.cellsIntS] using hg 3 _ rfl)
    obtain ⟨x4, rfl, i4⟩ := open_field_int Tryd.underlying3 (isSome_of_len (j := 4) hlen (by simp)) (by simpa [Value.cells, Tryd.cellsIntS] using hg 4 _ rfl)
    obtain ⟨x5, rfl, i5⟩ := open_field_int Tryd.underlying3 (isSome_of_len (j := 5) hlen (by simp)) (by simpa [Value.cells, Tryd.cellsIntS] using hg 5 _ rfl)
    obtain ⟨x6, rfl, i6⟩ := open_field_int Tryd.underlying3 (isSome_of_len (j := 6) hlen (by simp)) (by simpa [Value.cells, Tryd.cellsIntS] using hg 6 _ rfl)
    obtain ⟨a', m', k', ys, rfl, hy, hn⟩ := open_field_bytes (isSome_of_len (j := 7) hlen (by simp)) (by simpa [Value.cells, Tryd.cellsBytes] using hg 7 _ rfl)
    exact ⟨⟨x0, x1, x2, x3, x4, x5, x6⟩, a', m', k', ys, rfl, hy, hn, i0, i1, i2, i3, i4, i5, i6⟩
end
/-- One of them, in a later world. -/
theorem IsBools.at {w w' : World} {a : Option Addr} {n : Nat} {bs : List Bool} (h : IsBools w a n bs) (k : Ext w w') (hn : 0 < n) :
    ∃ b off, a = some ⟨b, off, none⟩ ∧ b < w.heap.size ∧ ∀ i, i < n → w'.cell? ⟨b, off + i, none⟩ = some (.bool (bs.getD i false)) := by
  obtain ⟨_, _, h0 | ⟨b, off, rfl, hb, hc⟩⟩ := h
  · omega
  exact ⟨b, off, rfl, hb, fun i hi => (World.cell?_of_block (Below.block k b hb)).trans (hc i hi)⟩
end Go.Proofs.YtkjchddidpjjmaaDoor
/- addr.Check, addr.Raw at an address that is one or is none. Conditions: as each theorem states them. -/
namespace Go.Proofs.YtkjchddidpjjmaaDoor
open Go.RowKit
def okS (s : Six) : Bool := words s.l
theorem check6_no (s : Six) (w : World) (h : okS s = false) : Calls Tryd.prog 48 #[s.v] w fun e w' => e = .returned (errv 1) ∧ Ext w w' :=
  (check6_any s w).mono fun _ _ ⟨he, hx⟩ => ⟨by rw [he, wordsErr_no h], hx⟩
theorem check6_yes (s : Six) (w : World) (h : okS s = true) : Calls Tryd.prog 48 #[s.v] w fun e w' => e = .returned .nilIface ∧ Ext w w' :=
  (check6_any s w).mono fun _ _ ⟨he, hx⟩ => ⟨by rw [he, wordsErr_yes h], hx⟩
theorem raw6_x (s : Six) (w : World) (h : okS s = true) : Calls Tryd.prog 50 #[.agg #[.int .i64 s.x0, .int .i64 s.x1, .int .i64 s.x2, .int .i64 s.x3, .int .i64 s.x4, .int .i64 s.x5, .int .i64 s.x6, .int .i64 s.x7]] w fun e w' => ∃ v, e = .returned v ∧ Own w' w.heap.size v (Pl.two s.l) ∧ Ext w w' := raw6_any s w h
theorem Six.isB {s : Six} (h : okS s = true) : Pl.IsB (Pl.two s.l) := Pl.two_isB (fun x hx => by
  obtain ⟨i, hi, rfl⟩ := List.getElem_of_mem hx
  have := Six.Ok.at (s := s) h i
  simpa [List.getD, hi] using this)

end Go.Proofs.YtkjchddidpjjmaaDoor
/- Errors by number. Conditions: as each lemma states them. -/
namespace Go.Proofs.YtkjchddidpjjmaaDoor
open Go.RowKit
/-- An error of a number, none of 0. -/
def erv (q : Int) : Value := if q = 0 then .nilIface else errv q
theorem erv_zero : erv 0 = .nilIface := rfl
theorem erv_ne {q : Int} (h : q ≠ 0) : erv q = errv q := by unfold erv; rw [if_neg h]
end Go.Proofs.YtkjchddidpjjmaaDoor
/- Packets of sixes: their cells, their fault, the contract of ip6.Check. Conditions: as each theorem states them. -/
namespace Go.Proofs.YtkjchddidpjjmaaDoor
open Go.RowKit
/-- A packet's addresses and numbers. -/
structure P6 where
  src : Six
  dst : Six
  hop : Int
  kind : Int
def P6.cells (p : P6) (b : Value) : Array Value := #[.int .i64 p.src.x0, .int .i64 p.src.x1, .int .i64 p.src.x2, .int .i64 p.src.x3, .int .i64 p.src.x4, .int .i64 p.src.x5, .int .i64 p.src.x6, .int .i64 p.src.x7, .int .i64 p.dst.x0, .int .i64 p.dst.x1, .int .i64 p.dst.x2, .int .i64 p.dst.x3, .int .i64 p.dst.x4, .int .i64 p.dst.x5, .int .i64 p.dst.x6, .int .i64 p.dst.x7, .int .i64 p.hop, .int .i64 p.kind, b]
abbrev P6.v (p : P6) (b : Value) : Value := .agg (p.cells b)
def b8 (n : Int) : Bool := decide (0 ≤ n) && decide (n ≤ 255)
theorem b8_yes {n : Int} (h : b8 n = true) : 0 ≤ n ∧ n ≤ 255 := by unfold b8 at h; simpa using h
theorem b8_no {n : Int} (h : b8 n = false) : n < 0 ∨ (0 ≤ n ∧ 255 < n) := by unfold b8 at h; simp at h; omega
def P6.good (p : P6) : Bool := okS p.src && okS p.dst && b8 p.hop && b8 p.kind
/-- What is wrong with a packet of n bytes. -/
def P6.fault (p : P6) (n : Nat) : Int := if p.good = true then (if n ≤ 320 then 0 else 3) else 1
theorem Tryd.sizeP6 : (Tryd.prog.info? 72).map (·.size) = some 19 := by kernel_rfl
section
variable {w : World} {g : Nat} {t : TypeId} {p : P6} {b : Value}
theorem Blk.p6 (h : Blk w g t (p.cells b)) : (Instr.loadAt 72 (.pointer (some ⟨g, 0, none⟩))).run Tryd.prog w = .ok (.agg (p.cells b)) w := by
  have := run_loadAt_mid (P := Tryd.prog) w g 0 72 (p.cells b).toList _ (fun j v hv => by
    rw [Array.getElem?_toList] at hv
    rw [h.cells, Nat.zero_add]; exact hv) Tryd.underlying72 rfl Tryd.sizeP6
  rw [Array.toArray_toList] at this
  exact this
theorem Blk.p6src (h : Blk w g t (p.cells b)) : (Instr.loadAt 23 (.pointer (some ⟨g, 0, none⟩))).run Tryd.prog w = .ok (.agg p.src.cells) w :=
  h.six 0 p.src fun j hj => by
    have h : j = 0 ∨ j = 1 ∨ j = 2 ∨ j = 3 ∨ j = 4 ∨ j = 5 ∨ j = 6 ∨ j = 7 := by omega
    rcases h with rfl | rfl | rfl | rfl | rfl | rfl | rfl | rfl <;> rfl
theorem Blk.p6dst (h : Blk w g t (p.cells b)) : (Instr.loadAt 23 (.pointer (some ⟨g, 8, none⟩))).run Tryd.prog w = .ok (.agg p.dst.cells) w :=
  h.six 8 p.dst fun j hj => by
    have h : j = 0 ∨ j = 1 ∨ j = 2 ∨ j = 3 ∨ j = 4 ∨ j = 5 ∨ j = 6 ∨ j = 7 := by omega
    rcases h with rfl | rfl | rfl | rfl | rfl | rfl | rfl | rfl <;> rfl
theorem Blk.p6nums (h : Blk w g t (p.cells b)) : w.cell? ⟨g, 16, none⟩ = some (.int .i64 p.hop) ∧ w.cell? ⟨g, 17, none⟩ = some (.int .i64 p.kind) ∧ w.cell? ⟨g, 18, none⟩ = some b := ⟨h.cells 16, h.cells 17, h.cells 18⟩
end
theorem P6.fault_bad {p : P6} {n : Nat} (h : p.good = false) : p.fault n = 1 := by unfold P6.fault; rw [h]; rfl
theorem P6.fault_full {p : P6} {n : Nat} (h : p.good = true) (hn : ¬ n ≤ 320) : p.fault n = 3 := by unfold P6.fault; rw [h, if_pos rfl, if_neg hn]
theorem P6.fault_none {p : P6} {n : Nat} (h : p.good = true) (hn : n ≤ 320) : p.fault n = 0 := by unfold P6.fault; rw [h, if_pos rfl, if_pos hn]
theorem P6.fault_zero {p : P6} {n : Nat} (h : p.fault n = 0) : p.good = true ∧ n ≤ 320 := by
  unfold P6.fault at h
  by_cases hg : p.good = true
  · rw [if_pos hg] at h
    by_cases hn : n ≤ 320
    · exact ⟨hg, hn⟩
    · rw [if_neg hn] at h; omega
  · rw [if_neg hg] at h; omega
theorem P6.good_all {p : P6} (h : p.good = true) : okS p.src = true ∧ okS p.dst = true ∧ (0 ≤ p.hop ∧ p.hop ≤ 255) ∧ (0 ≤ p.kind ∧ p.kind ≤ 255) := by
  unfold P6.good at h
  simp only [Bool.and_eq_true] at h
  exact ⟨h.1.1.1, h.1.1.2, b8_yes h.1.2, b8_yes h.2⟩

set_option maxRecDepth 100000 in
set_option maxHeartbeats 4000000 in
theorem check6p_any (p : P6) (a : Option Addr) (n c : Nat) (w : World) :
    Calls Tryd.prog 78 #[p.v (.slice a n c)] w fun e w' => e = .returned (erv (p.fault n)) ∧ Ext w w' := by
  have K0 := Blk.new w 72 (p.cells (.slice a n c))
  have E0 : Ext w (w.alloc (.cells (p.cells (.slice a n c)) 72)) := (Ext.refl w).alloc _
  have l0s := K0.p6src
  cases hs : okS p.src
  case false =>
    rw [P6.fault_bad (show p.good = false by unfold P6.good; rw [hs]; rfl)]
    have HS := Lib.hid hs
    clear hs
    go_enter Tryd.func78, Tryd.ntmps78
    go_wp2_with ((apply load_by rfl _ _ rfl _ rfl); (focus (with_reducible assumption)))
    refine (check6_no p.src _ HS.out).mono ?_
    rintro e W1 ⟨rfl, q1⟩
    unfold errv
    go_wp2_with fail
    go_ret
    exact ⟨rfl, E0.trans q1⟩
  have HS := Lib.hid hs
  cases hd : okS p.dst
  case false =>
    rw [P6.fault_bad (show p.good = false by unfold P6.good; rw [hs, hd]; rfl)]
    have HD := Lib.hid hd
    clear hs hd
    go_enter Tryd.func78, Tryd.ntmps78
    go_wp2_with ((apply load_by rfl _ _ rfl _ rfl); (focus (with_reducible assumption)))
    refine (check6_yes p.src _ HS.out).mono ?_
    rintro e W1 ⟨rfl, q1⟩
    have l1d := (K0.ext q1).p6dst
    clear l0s
    go_wp2_with ((apply load_by rfl _ _ rfl _ rfl); (focus (with_reducible assumption)))
    refine (check6_no p.dst _ HD.out).mono ?_
    rintro e W2 ⟨rfl, q2⟩
    unfold errv
    go_wp2_with fail
    go_ret
    exact ⟨rfl, (E0.trans q1).trans q2⟩
  have HD := Lib.hid hd
  cases hh : b8 p.hop
  case false =>
    rw [P6.fault_bad (show p.good = false by unfold P6.good; rw [hs, hd, hh]; rfl)]
    clear hs hd
    rcases b8_no hh with hh' | ⟨hh', hh2⟩
    all_goals
      clear hh
      go_enter Tryd.func78, Tryd.ntmps78
      go_wp2_with ((apply load_by rfl _ _ rfl _ rfl); (focus (with_reducible assumption)))
      refine (check6_yes p.src _ HS.out).mono ?_
      rintro e W1 ⟨rfl, q1⟩
      have l1d := (K0.ext q1).p6dst
      clear l0s
      go_wp2_with ((apply load_by rfl _ _ rfl _ rfl); (focus (with_reducible assumption)))
      refine (check6_yes p.dst _ HD.out).mono ?_
      rintro e W2 ⟨rfl, q2⟩
      obtain ⟨m0, m1, m2⟩ := ((K0.ext q1).ext q2).p6nums
      go_wp2_with fail
      go_ret
      exact ⟨rfl, (E0.trans q1).trans q2⟩
  obtain ⟨h0, h1⟩ := b8_yes hh
  cases hk : b8 p.kind
  case false =>
    rw [P6.fault_bad (show p.good = false by unfold P6.good; rw [hs, hd, hh, hk]; rfl)]
    clear hs hd hh
    rcases b8_no hk with hh' | ⟨hh', hh2⟩
    all_goals
      clear hk
      go_enter Tryd.func78, Tryd.ntmps78
      go_wp2_with ((apply load_by rfl _ _ rfl _ rfl); (focus (with_reducible assumption)))
      refine (check6_yes p.src _ HS.out).mono ?_
      rintro e W1 ⟨rfl, q1⟩
      have l1d := (K0.ext q1).p6dst
      clear l0s
      go_wp2_with ((apply load_by rfl _ _ rfl _ rfl); (focus (with_reducible assumption)))
      refine (check6_yes p.dst _ HD.out).mono ?_
      rintro e W2 ⟨rfl, q2⟩
      obtain ⟨m0, m1, m2⟩ := ((K0.ext q1).ext q2).p6nums
      go_wp2_with fail
      go_ret
      exact ⟨rfl, (E0.trans q1).trans q2⟩
  obtain ⟨k0, k1⟩ := b8_yes hk
  have hg : p.good = true := by unfold P6.good; rw [hs, hd, hh, hk]; rfl
  clear hs hd hh hk
  by_cases hn : n ≤ 320
  case' pos => rw [P6.fault_none hg hn]; have hn' : ¬ (320 : Int) < (n : Int) := by omega
  case' neg => rw [P6.fault_full hg hn]; have hn' : (320 : Int) < (n : Int) := by omega
  all_goals
    clear hg
    go_enter Tryd.func78, Tryd.ntmps78
    go_wp2_with ((apply load_by rfl _ _ rfl _ rfl); (focus (with_reducible assumption)))
    refine (check6_yes p.src _ HS.out).mono ?_
    rintro e W1 ⟨rfl, q1⟩
    have l1d := (K0.ext q1).p6dst
    clear l0s
    go_wp2_with ((apply load_by rfl _ _ rfl _ rfl); (focus (with_reducible assumption)))
    refine (check6_yes p.dst _ HD.out).mono ?_
    rintro e W2 ⟨rfl, q2⟩
    obtain ⟨m0, m1, m2⟩ := ((K0.ext q1).ext q2).p6nums
    go_wp2_with fail
    go_ret
    exact ⟨rfl, (E0.trans q1).trans q2⟩
end Go.Proofs.YtkjchddidpjjmaaDoor
/- The contract of ip6.Encode. Conditions: as each theorem states them. -/
namespace Go.Proofs.YtkjchddidpjjmaaDoor
open Go.RowKit
namespace Pl
/-- A packet's bytes. -/
def head6 (p : P6) (n : Int) : List Int := [96, 0, 0, 0, n / 256, n % 256, p.kind, p.hop]
def enc6 (p : P6) (b : List Int) : List Int := head6 p b.length ++ two p.src.l ++ two p.dst.l ++ b
end Pl

theorem keepAll {a b : World} {B g : Nat} {cs : Array Value} (h : Below B a b) (hg : g < B) (x : ∀ i, a.cell? ⟨g, i, none⟩ = cs[i]?) : ∀ i, b.cell? ⟨g, i, none⟩ = cs[i]? :=
  fun i => (World.cell?_of_block (h.block g hg)).trans (x i)
/-- A world in the midst of a walk is named by what is known of it. -/
theorem at_worldD {P : Program} {c : Code} {Q : Exit → Act → World → Prop} {a : Act} {W : World} (X : World → Prop) (h : X W) (k : ∀ W', X W' → c.wp P Q a W') : c.wp P Q a W := k W h
end Go.Proofs.YtkjchddidpjjmaaDoor
/- The contract of addr.Of: sixteen bytes as an address. Conditions: as each theorem states them. -/
namespace Go.Proofs.YtkjchddidpjjmaaDoor
open Go.RowKit
namespace Pl
def at2 (l : List Int) (i : Nat) : Int := l.getD i 0 * 256 + l.getD (i + 1) 0
end Pl
/-- The address of sixteen bytes. -/
def sixAt (l : List Int) : Six := ⟨Pl.at2 l 0, Pl.at2 l 2, Pl.at2 l 4, Pl.at2 l 6, Pl.at2 l 8, Pl.at2 l 10, Pl.at2 l 12, Pl.at2 l 14⟩

set_option maxHeartbeats 1600000 in
theorem of6_any (b off n c : Nat) (xs : List Int) (w : World) (hx : Ints .u8 w (some ⟨b, off, none⟩) n xs) (hI : Pl.IsB xs) (hn : 16 ≤ n) :
    Calls Tryd.prog 56 #[.slice (some ⟨b, off, none⟩) n c] w fun e w' => e = .returned (sixAt xs).v ∧ Ext w w' := by
  obtain ⟨b', off', hbo, hbl, hc⟩ := hx.at (by omega)
  cases hbo
  have HC := Lib.hid hc
  have HI := Lib.hid hI
  clear hc hI hx
  go_enter Tryd.func56, Tryd.ntmps56
  go_wp2
  go_loopw [5] (fun i wr => ∃ k : Nat, k ≤ 8 ∧ i = .int .i64 k ∧ Below w.heap.size w wr ∧ (∀ j, wr.frozen? ⟨w.heap.size + 1, j, none⟩ = false) ∧ (∀ j, j < 8 → wr.cell? ⟨w.heap.size + 1, j, none⟩ = some (.int .i64 (if j < k then Pl.at2 xs (2 * j) else 0))) ∧ Blk wr w.heap.size 23 #[.int .i64 0, .int .i64 0, .int .i64 0, .int .i64 0, .int .i64 0, .int .i64 0, .int .i64 0, .int .i64 0]) (fun i _ => 8 - (intOf i).toNat)
  case atStart =>
    refine ⟨0, Nat.zero_le _, rfl, by go_grown, fun j => (Blk.at _ _ _ (by simp)).free j, fun j hj => ?_, (Blk.new _ _ _).alloc _⟩
    have h : j = 0 ∨ j = 1 ∨ j = 2 ∨ j = 3 ∨ j = 4 ∨ j = 5 ∨ j = 6 ∨ j = 7 := by omega
    rcases h with rfl | rfl | rfl | rfl | rfl | rfl | rfl | rfl <;> exact (Blk.at _ _ _ (by simp)).cells _
  case round =>
    obtain ⟨k, hk, rfl, hB, hF, hA, hK⟩ := hrel
    have hsz := hK.lt
    by_cases hlt : k < 8
    · have hb : b < wr.heap.size := by have := hB.size; omega
      have c0 : wr.cell? ⟨b, off + 2 * k, none⟩ = some (.int .u8 (xs.getD (2 * k) 0)) := (hB.cell (p := ⟨b, off + 2 * k, none⟩) hbl).trans (HC.out _ (by omega))
      have c1 : wr.cell? ⟨b, off + (2 * k + 1), none⟩ = some (.int .u8 (xs.getD (2 * k + 1) 0)) := (hB.cell (p := ⟨b, off + (2 * k + 1), none⟩) hbl).trans (HC.out _ (by omega))
      have hs := hA k hlt
      rw [if_neg (by omega)] at hs
      have hf := hF k
      obtain ⟨b00, b01⟩ := HI.out.getD (2 * k)
      obtain ⟨b10, b11⟩ := HI.out.getD (2 * k + 1)
      have hat : Pl.at2 xs (2 * k) = xs.getD (2 * k) 0 * 256 + xs.getD (2 * k + 1) 0 := rfl
      generalize xs.getD (2 * k) 0 = y0 at *
      generalize xs.getD (2 * k + 1) 0 = y1 at *
      have HA := Lib.hid hA
      have HF := Lib.hid hF
      have HT := Lib.hid hat
      clear hA hF hat
      have eor : bits BinOp.or IntKind.i64 (y0 * 256) y1 = y0 * 256 + y1 := or8 (by omega) (by omega) (by omega) (by omega) (by omega)
      have ew0 : IntKind.i64.wrap y0 = y0 := IntWalk.i64_in _ (by omega)
      have ew1 : IntKind.i64.wrap y1 = y1 := IntWalk.i64_in _ (by omega)
      have ew2 : IntKind.i64.wrap (y0 * 256) = y0 * 256 := IntWalk.i64_in _ (by omega)
      have i0 : (2 : Int) * (k : Int) < (n : Int) := by omega
      have i1 : (2 : Int) * (k : Int) + 1 < (n : Int) := by omega
      go_wp2_with fail
      go_region
      go_wp2
      go_roundw
      case rel =>
        refine ⟨k + 1, by omega, by go_num, ?_, ?_, ?_, ?_⟩
        · exact (hB.setCell (p := ⟨w.heap.size + 1, k, none⟩) (by show _ ≤ w.heap.size + 1; omega) _).drew
        · exact fun j => (World.frozen?_setCell ..).trans (HF.out j)
        · intro j hj
          by_cases hjk : j = k
          · subst hjk
            rw [if_pos (by omega), HT.out]
            exact World.cell?_setCell_same' _ _ _ (by rw [hs]; first | rfl | done)
          · have := HA.out j hj
            have e : (if j < k + 1 then Pl.at2 xs (2 * j) else 0) = if j < k then Pl.at2 xs (2 * j) else 0 := by
              by_cases h : j < k
              · rw [if_pos h, if_pos (by omega)]
              · rw [if_neg h, if_neg (by omega)]
            rw [e]
            exact (World.cell?_setCell_other _ _ _ _ (by simp; try omega)).trans this
        · exact (hK.far (by show w.heap.size ≠ w.heap.size + 1; omega) _).drew
      case measure => simp [intOf]; omega
    · obtain rfl : k = 8 := by omega
      have q0 := hA 0 (by omega)
      have q1 := hA 1 (by omega)
      have q2 := hA 2 (by omega)
      have q3 := hA 3 (by omega)
      have q4 := hA 4 (by omega)
      have q5 := hA 5 (by omega)
      have q6 := hA 6 (by omega)
      have q7 := hA 7 (by omega)
      have rc := hK.cells
      have rf := hK.free
      rw [if_pos (by omega)] at q0 q1 q2 q3 q4 q5 q6 q7
      clear hA
      go_wp2
      have r8 : Blk _ w.heap.size 23 (sixAt xs).cells := (((((((hK.put 0 (.int .i64 (Pl.at2 xs 0))).put 1 (.int .i64 (Pl.at2 xs 2))).put 2 (.int .i64 (Pl.at2 xs 4))).put 3 (.int .i64 (Pl.at2 xs 6))).put 4 (.int .i64 (Pl.at2 xs 8))).put 5 (.int .i64 (Pl.at2 xs 10))).put 6 (.int .i64 (Pl.at2 xs 12))).put 7 (.int .i64 (Pl.at2 xs 14))
      refine bodyPost_ret (v := (sixAt xs).v) (results_cell_row Tryd.results56 _ _ w.heap.size 23 _ (0, 0) _ rfl r8 Tryd.underlying23 rfl Tryd.size6) rfl ⟨rfl, ?_⟩
      unfold Ext
      go_grown
end Go.Proofs.YtkjchddidpjjmaaDoor
/- The or of two bytes. Conditions: as each lemma states them. -/
namespace Go.Proofs.YtkjchddidpjjmaaDoor
theorem or_bytes : ∀ x : Fin 256, ∀ y : Fin 256, (0 ≤ bits .or .u8 (x.val : Int) (y.val : Int) ∧ bits .or .u8 (x.val : Int) (y.val : Int) ≤ 255) ∧ (bits .or .u8 (x.val : Int) (y.val : Int) = 0 ↔ (x.val = 0 ∧ y.val = 0)) := by decide +kernel
theorem or_byte {x y : Int} (hx : 0 ≤ x ∧ x ≤ 255) (hy : 0 ≤ y ∧ y ≤ 255) : (0 ≤ bits .or .u8 x y ∧ bits .or .u8 x y ≤ 255) ∧ (bits .or .u8 x y = 0 ↔ (x = 0 ∧ y = 0)) := by
  have h := or_bytes ⟨x.toNat, by omega⟩ ⟨y.toNat, by omega⟩
  simp only [Int.toNat_of_nonneg hx.1, Int.toNat_of_nonneg hy.1] at h
  refine ⟨h.1, h.2.trans ?_⟩
  omega
theorem or3 {x y z : Int} (hx : 0 ≤ x ∧ x ≤ 255) (hy : 0 ≤ y ∧ y ≤ 255) (hz : 0 ≤ z ∧ z ≤ 255) : bits .or .u8 (bits .or .u8 x y) z = 0 ↔ (x = 0 ∧ y = 0 ∧ z = 0) := by
  rw [(or_byte (or_byte hx hy).1 hz).2, (or_byte hx hy).2, and_assoc]
end Go.Proofs.YtkjchddidpjjmaaDoor
/- Stores of whole structs, and results that lie in memory. Conditions: as each lemma states them. -/
namespace Go.Proofs.YtkjchddidpjjmaaDoor
open Go.RowKit

/-- At a store whose run is known. -/
theorem store_by {P : Program} {ops : Array Oper} {rest : List Oper} {o : Oper} {a : Act} {w : World} {Q : Exit → Act → World → Prop} (hw : Region.wanted o (yielded ops a.tmps) = true) (ty : TypeId) (x y : Operand) (ho : o.op = .store ty x y)
    (p : Addr) (hx : a.eval x = .pointer (some p)) {v : Value} {w' : World} (h : (Instr.storeAt ty (.pointer (some p)) v).run P w = .ok () w') (hy : a.eval y = v)
    (k : wpList P ops Q rest (a.put o.dst undef) w') : wpList P ops Q (o :: rest) a w := by
  refine BigFrame.wpList_want hw fun K hK => ?_
  unfold Oper.wp execOp
  simp only [ho, hx, hy, Sem.run_bind, h, Result.andThen_ok, Sem.run_pure]
  exact hK _ _ k

section
variable {w w' : World} {g : Nat} {t : TypeId} {old cs : Array Value}
theorem Blk.row (h : Blk w g t old) (cs : Array Value) : Blk (w.setRow g cs) g t cs := setRow_heap w g old cs t (0, 0) h
theorem Blk.farRow {k : Nat} (h : Blk w g t old) (hk : g ≠ k) (cs : Array Value) : Blk (w.setRow k cs) g t old := (setRow_other w k g cs hk).trans h
theorem Ext.row {a b : World} (h : Ext a b) {k : Nat} (hk : a.heap.size ≤ k) (cs : Array Value) : Ext a (b.setRow k cs) := below_setRow h hk cs
theorem only_row {a b : World} {g k : Nat} (h : a.grownBy b (some g)) (hk : a.heap.size ≤ k) (cs : Array Value) : a.grownBy (b.setRow k cs) (some g) :=
  ⟨h.os, h.tape, h.output, by simpa using h.size, fun i hi hne => (setRow_other b k i cs (by omega)).trans (h.block i hi hne)⟩
theorem Blk.store (h : Blk w g t old) {ty : TypeId} (hs : old.size = cs.size) (hi : (Tryd.prog.info? ty).map (·.size) = some cs.size) (h1 : cs.all (·.oneCell') = true) :
    (Instr.storeAt ty (.pointer (some ⟨g, 0, none⟩)) (.agg cs)).run Tryd.prog w = .ok () (w.setRow g cs) := by
  simp only [Instr.storeAt, Instr.sureAddr, Sem.run_bind, Sem.run_pure, Result.andThen_ok, run_storeVar_row w g t ty old cs h hi hs h1]
end
/-- A world is named by what is known of it, at a statement. -/
theorem at_worldE {P : Program} {c : Code} {Q : Exit → Act → World → Prop} {a : Act} {W : World} (X : World → Prop) (h : X W) (k : ∀ W', X W' → c.wp P Q a W') : c.wp P Q a W := k W h
/-- An address's eight noughts. -/
abbrev zc6 : Array Value := #[.int .i64 0, .int .i64 0, .int .i64 0, .int .i64 0, .int .i64 0, .int .i64 0, .int .i64 0, .int .i64 0]
theorem cell_off {w : World} {p q : Addr} (h : ¬ p.block = q.block) (u : Value) : (w.setCell q u).cell? p = w.cell? p := World.cell?_of_block (Below.heap_setCell w q u p.block h)
/-- Two results, the first in memory. -/
theorem results_cell2 {fn : Func} {p q : Tmp} {ty : TypeId} (h : fn.results = #[.cell p ty, .tmp q]) (tmps : Array Value) (w : World) (g : Nat) (t : TypeId) (cs : Array Value) (d : TypeDesc)
    (hp : tmps.getD p undef = .pointer (some ⟨g, 0, none⟩)) (hg : Blk w g t cs)
    (hu : Tryd.prog.underlying ty = some d) (hd : d.isRow = true) (hi : (Tryd.prog.info? ty).map (·.size) = some cs.size) :
    (results fn tmps).run Tryd.prog w = .ok (.tuple #[.agg cs, tmps.getD q undef]) w := by
  have hp' : tmps[p]?.getD undef = .pointer (some ⟨g, 0, none⟩) := by simpa using hp
  simp [results, h, hp', asAddr, run_loadVar_row w g t ty cs (0, 0) d hg hu (by cases d <;> simp_all [TypeDesc.isRow]) hi]
end Go.Proofs.YtkjchddidpjjmaaDoor
/- The rest of bytes, under one name. Conditions: as each lemma states them. -/
namespace Go.Proofs.YtkjchddidpjjmaaDoor
open Go.RowKit
theorem Tryd.elemBytesT : Tryd.prog.elem 40 = 5 := by kernel_rfl
theorem Tryd.sizeByteT : ∀ w : World, (sizeOf 5).run Tryd.prog w = .ok 1 w := fun w => by kernel_rfl
/-- x[k:]. -/
theorem slice_tail (a : Option Addr) (n c k : Nat) (i : Int) (hi : i = k) (hk : k ≤ n) (hnc : n ≤ c) (hn : a = none → c = 0) :
    ∃ AA : Option Addr, (∀ (w : World) (xs : List Int), Ints .u8 w a n xs → Ints .u8 w AA (n - k) (xs.drop k)) ∧ (AA = none → c - k = 0) ∧
      ∀ W : World, (Instr.slice 40 (.slice a n c) (some (.int .i64 i)) none none).run Tryd.prog W = .ok (.slice AA (n - k) (c - k)) W := by
  subst hi
  refine ⟨if c = k then a else a.map (·.add (k * 1)), fun w xs h => ?_, fun h => ?_, fun W => ?_⟩
  · by_cases hz : n - k = 0
    · exact ⟨by rw [List.length_drop, h.1], .inl hz⟩
    · obtain ⟨b, off, rfl, _, _⟩ := h.at (by omega)
      rw [Option.map_some, Addr.add_lit, Nat.mul_one]
      exact h.dropped k c hk hnc
  · cases a with
    | none => have := hn rfl; omega
    | some p =>
      by_cases hc : c = k
      · rw [if_pos hc] at h; cases h
      · rw [if_neg hc] at h; cases h
  · rw [run_slice_l W 40 a n c (by rw [Tryd.elemBytesT]; exact Tryd.underlying40) .i64 (k : Int) (by omega) (by omega), Tryd.elemBytesT, Tryd.sizeByteT]
    simp only [Result.andThen_ok, sliced, Int.toNat_natCast]
/-- x[:k]. -/
theorem slice_head (b off n c k : Nat) (i : Int) (hi : i = k) (hk : k ≤ c) :
    ∀ W : World, (Instr.slice 40 (.slice (some ⟨b, off, none⟩) n c) none (some (.int .i64 i)) none).run Tryd.prog W = .ok (.slice (some ⟨b, off, none⟩) k c) W := by
  subst hi
  intro W
  rw [run_slice_h W 40 (some ⟨b, off, none⟩) n c (by rw [Tryd.elemBytesT]; exact Tryd.underlying40) .i64 (k : Int) (by omega) (by omega), Tryd.elemBytesT, Tryd.sizeByteT]
  simp only [Result.andThen_ok, sliced, Int.toNat_natCast, Nat.sub_zero, Nat.zero_mul, Option.map_some, Addr.add_lit, Nat.add_zero]
  by_cases hc : c = 0
  · rw [if_pos hc]
  · rw [if_neg hc]
theorem Ints.front {k : IntKind} {w : World} {a : Option Addr} {n : Nat} {xs : List Int} (h : Ints k w a n xs) (m : Nat) (hm : m ≤ n) : Ints k w a m (xs.take m) := by
  refine ⟨by rw [List.length_take, h.1]; omega, ?_⟩
  rcases h.2 with h0 | ⟨b, off, rfl, hc⟩
  · exact .inl (by omega)
  · refine .inr ⟨b, off, rfl, fun i hi => ?_⟩
    rw [hc i (by omega)]
    simp [List.getD, hi]
end Go.Proofs.YtkjchddidpjjmaaDoor
/- The contract of ip6.Decode. Conditions: as each theorem states them. -/
namespace Go.Proofs.YtkjchddidpjjmaaDoor
open Go.RowKit
namespace Pl
/-- Are bytes a packet of sixes? -/
def Is6 (xs : List Int) : Prop := (40 ≤ xs.length ∧ xs.length ≤ 360) ∧ xs.getD 0 0 = 96 ∧ (xs.getD 1 0 = 0 ∧ xs.getD 2 0 = 0 ∧ xs.getD 3 0 = 0) ∧ xs.getD 4 0 * 256 + xs.getD 5 0 = xs.length - 40
def dec6 (xs : List Int) : P6 := ⟨sixAt (xs.drop 8), sixAt (xs.drop 24), xs.getD 7 0, xs.getD 6 0⟩
end Pl
def p60 : P6 := ⟨⟨0, 0, 0, 0, 0, 0, 0, 0⟩, ⟨0, 0, 0, 0, 0, 0, 0, 0⟩, 0, 0⟩

theorem P6.one (p : P6) (a : Option Addr) (n c : Nat) : (p.cells (.slice a n c)).all (·.oneCell') = true := by simp [P6.cells, Value.oneCell']
theorem sto6 {w : World} {R : Nat} (k : Blk w R 72 #[.int .i64 0, .int .i64 0, .int .i64 0, .int .i64 0, .int .i64 0, .int .i64 0, .int .i64 0, .int .i64 0, .int .i64 0, .int .i64 0, .int .i64 0, .int .i64 0, .int .i64 0, .int .i64 0, .int .i64 0, .int .i64 0, .int .i64 0, .int .i64 0, .slice none 0 0]) (p : P6) (a : Option Addr) (n c : Nat) :
    (Instr.storeAt 72 (.pointer (some ⟨R, 0, none⟩)) (.agg #[.int .i64 p.src.x0, .int .i64 p.src.x1, .int .i64 p.src.x2, .int .i64 p.src.x3, .int .i64 p.src.x4, .int .i64 p.src.x5, .int .i64 p.src.x6, .int .i64 p.src.x7, .int .i64 p.dst.x0, .int .i64 p.dst.x1, .int .i64 p.dst.x2, .int .i64 p.dst.x3, .int .i64 p.dst.x4, .int .i64 p.dst.x5, .int .i64 p.dst.x6, .int .i64 p.dst.x7, .int .i64 p.hop, .int .i64 p.kind, .slice a n c])).run Tryd.prog w = .ok () (w.setRow R (p.cells (.slice a n c))) := k.store rfl Tryd.sizeP6 (p.one a n c)
theorem sto60 {w : World} {R : Nat} (k : Blk w R 72 #[.int .i64 0, .int .i64 0, .int .i64 0, .int .i64 0, .int .i64 0, .int .i64 0, .int .i64 0, .int .i64 0, .int .i64 0, .int .i64 0, .int .i64 0, .int .i64 0, .int .i64 0, .int .i64 0, .int .i64 0, .int .i64 0, .int .i64 0, .int .i64 0, .slice none 0 0]) :
    (Instr.storeAt 72 (.pointer (some ⟨R, 0, none⟩)) (.agg #[.int .i64 0, .int .i64 0, .int .i64 0, .int .i64 0, .int .i64 0, .int .i64 0, .int .i64 0, .int .i64 0, .int .i64 0, .int .i64 0, .int .i64 0, .int .i64 0, .int .i64 0, .int .i64 0, .int .i64 0, .int .i64 0, .int .i64 0, .int .i64 0, .slice none 0 0])).run Tryd.prog w = .ok () (w.setRow R #[.int .i64 0, .int .i64 0, .int .i64 0, .int .i64 0, .int .i64 0, .int .i64 0, .int .i64 0, .int .i64 0, .int .i64 0, .int .i64 0, .int .i64 0, .int .i64 0, .int .i64 0, .int .i64 0, .int .i64 0, .int .i64 0, .int .i64 0, .int .i64 0, .slice none 0 0]) := k.store rfl Tryd.sizeP6 (by simp [Value.oneCell'])
/-- What Decode gives of bytes that are no packet. -/
def Bad6 (e : Ending) : Prop := e = .returned (.tuple #[.agg #[.int .i64 0, .int .i64 0, .int .i64 0, .int .i64 0, .int .i64 0, .int .i64 0, .int .i64 0, .int .i64 0, .int .i64 0, .int .i64 0, .int .i64 0, .int .i64 0, .int .i64 0, .int .i64 0, .int .i64 0, .int .i64 0, .int .i64 0, .int .i64 0, .slice none 0 0], errv 5])

end Go.Proofs.YtkjchddidpjjmaaDoor
/- Plain laws of packets of sixes: what is written is read. Conditions: as each lemma states them. -/
namespace Go.Proofs.YtkjchddidpjjmaaDoor
namespace Pl
theorem cat_div {a b : Int} (h : 0 ≤ b ∧ b ≤ 255) : (a * 256 + b) / 256 = a := by omega
theorem cat_mod {a b : Int} (h : 0 ≤ b ∧ b ≤ 255) : (a * 256 + b) % 256 = b := by omega
theorem div_cat (x : Int) : x / 256 * 256 + x % 256 = x := by omega
theorem enc6_length (p : P6) (b : List Int) : (enc6 p b).length = 40 + b.length := by
  unfold enc6 head6
  simp only [List.length_append, two_length]
  simp [Six.l]
theorem enc6_drop (p : P6) (b : List Int) : (enc6 p b).drop 40 = b := rfl
theorem enc6_dec (p : P6) (b : List Int) : dec6 (enc6 p b) = p := by
  obtain ⟨⟨s0, s1, s2, s3, s4, s5, s6, s7⟩, ⟨d0, d1, d2, d3, d4, d5, d6, d7⟩, h, k⟩ := p
  show (⟨⟨s0 / 256 * 256 + s0 % 256, s1 / 256 * 256 + s1 % 256, s2 / 256 * 256 + s2 % 256, s3 / 256 * 256 + s3 % 256, s4 / 256 * 256 + s4 % 256, s5 / 256 * 256 + s5 % 256, s6 / 256 * 256 + s6 % 256, s7 / 256 * 256 + s7 % 256⟩, ⟨d0 / 256 * 256 + d0 % 256, d1 / 256 * 256 + d1 % 256, d2 / 256 * 256 + d2 % 256, d3 / 256 * 256 + d3 % 256, d4 / 256 * 256 + d4 % 256, d5 / 256 * 256 + d5 % 256, d6 / 256 * 256 + d6 % 256, d7 / 256 * 256 + d7 % 256⟩, h, k⟩ : P6) = _
  simp only [div_cat]
theorem enc6_isB {p : P6} {b : List Int} (hg : p.good = true) (hn : b.length ≤ 320) (hb : IsB b) : IsB (enc6 p b) := by
  obtain ⟨hs, hd, hh, hk⟩ := P6.good_all hg
  unfold enc6 head6
  refine ((IsB.append ?_ (Six.isB hs)).append (Six.isB hd)).append hb
  intro x hx
  simp only [List.mem_cons, List.not_mem_nil, or_false] at hx
  rcases hx with rfl | rfl | rfl | rfl | rfl | rfl | rfl | rfl <;> omega
theorem enc6_is {p : P6} {b : List Int} (hn : b.length ≤ 320) : Is6 (enc6 p b) := by
  refine ⟨by rw [enc6_length]; omega, rfl, ⟨rfl, rfl, rfl⟩, ?_⟩
  rw [enc6_length]
  show (b.length : Int) / 256 * 256 + (b.length : Int) % 256 = _
  rw [div_cat]
  omega
theorem enc6_cut {p : P6} {b : List Int} (k : Nat) (hk : k < (enc6 p b).length) : ¬ Is6 ((enc6 p b).take k) := by
  intro ⟨⟨h0, h1⟩, _, _, h4⟩
  rw [List.length_take] at h0 h4
  have hl := enc6_length p b
  have e4 : ((enc6 p b).take k).getD 4 0 = (b.length : Int) / 256 := by
    rw [List.getD_eq_getElem?_getD, List.getElem?_take, if_pos (by omega)]; rfl
  have e5 : ((enc6 p b).take k).getD 5 0 = (b.length : Int) % 256 := by
    rw [List.getD_eq_getElem?_getD, List.getElem?_take, if_pos (by omega)]; rfl
  rw [e4, e5, div_cat] at h4
  omega
theorem enc6_more {p : P6} {b : List Int} (y : Int) : ¬ Is6 (enc6 p b ++ [y]) := by
  intro ⟨_, _, _, h4⟩
  rw [List.length_append, enc6_length] at h4
  have e4 : (enc6 p b ++ [y]).getD 4 0 = (b.length : Int) / 256 := rfl
  have e5 : (enc6 p b ++ [y]).getD 5 0 = (b.length : Int) % 256 := rfl
  rw [e4, e5, div_cat] at h4
  simp at h4
  omega
theorem take_getD (xs : List Int) : ∀ n, n ≤ xs.length → xs.take n = (List.range n).map (fun i => xs.getD i 0)
  | 0, _ => by simp
  | n + 1, h => by
    rw [take_snoc xs n (by omega), take_getD xs n (by omega), List.range_succ, List.map_append]
    rfl
theorem drop_getD (xs : List Int) (k i : Nat) : (xs.drop k).getD i 0 = xs.getD (k + i) 0 := by
  rw [List.getD_eq_getElem?_getD, List.getElem?_drop, List.getD_eq_getElem?_getD]
set_option maxRecDepth 10000 in
theorem dec6_enc {xs : List Int} (hb : IsB xs) (h : Is6 xs) : enc6 (dec6 xs) (xs.drop 40) = xs := by
  obtain ⟨⟨h0, _⟩, e0, ⟨e1, e2, e3⟩, e4⟩ := h
  have ht := List.take_append_drop 40 xs
  have B := fun i => hb.getD i
  have hl : ((xs.drop 40).length : Int) = xs.getD 4 0 * 256 + xs.getD 5 0 := by rw [e4, List.length_drop]; omega
  have hd : dec6 xs = ⟨⟨xs.getD 8 0 * 256 + xs.getD 9 0, xs.getD 10 0 * 256 + xs.getD 11 0, xs.getD 12 0 * 256 + xs.getD 13 0, xs.getD 14 0 * 256 + xs.getD 15 0, xs.getD 16 0 * 256 + xs.getD 17 0, xs.getD 18 0 * 256 + xs.getD 19 0, xs.getD 20 0 * 256 + xs.getD 21 0, xs.getD 22 0 * 256 + xs.getD 23 0⟩, ⟨xs.getD 24 0 * 256 + xs.getD 25 0, xs.getD 26 0 * 256 + xs.getD 27 0, xs.getD 28 0 * 256 + xs.getD 29 0, xs.getD 30 0 * 256 + xs.getD 31 0, xs.getD 32 0 * 256 + xs.getD 33 0, xs.getD 34 0 * 256 + xs.getD 35 0, xs.getD 36 0 * 256 + xs.getD 37 0, xs.getD 38 0 * 256 + xs.getD 39 0⟩, xs.getD 7 0, xs.getD 6 0⟩ := by
    unfold dec6 sixAt at2
    simp only [drop_getD]
  have htk := take_getD xs 40 h0
  rw [hd]
  generalize xs.drop 40 = r at *
  rw [← ht, htk]
  clear ht htk hd h0
  generalize hf : (fun i => xs.getD i 0) = f
  have g : ∀ i, xs.getD i 0 = f i := fun i => by rw [← hf]
  simp only [g] at *
  clear g hf hb
  show [96, 0, 0, 0, (r.length : Int) / 256, (r.length : Int) % 256, f 6, f 7, (f 8 * 256 + f 9) / 256, (f 8 * 256 + f 9) % 256, (f 10 * 256 + f 11) / 256, (f 10 * 256 + f 11) % 256, (f 12 * 256 + f 13) / 256, (f 12 * 256 + f 13) % 256, (f 14 * 256 + f 15) / 256, (f 14 * 256 + f 15) % 256, (f 16 * 256 + f 17) / 256, (f 16 * 256 + f 17) % 256, (f 18 * 256 + f 19) / 256, (f 18 * 256 + f 19) % 256, (f 20 * 256 + f 21) / 256, (f 20 * 256 + f 21) % 256, (f 22 * 256 + f 23) / 256, (f 22 * 256 + f 23) % 256, (f 24 * 256 + f 25) / 256, (f 24 * 256 + f 25) % 256, (f 26 * 256 + f 27) / 256, (f 26 * 256 + f 27) % 256, (f 28 * 256 + f 29) / 256, (f 28 * 256 + f 29) % 256, (f 30 * 256 + f 31) / 256, (f 30 * 256 + f 31) % 256, (f 32 * 256 + f 33) / 256, (f 32 * 256 + f 33) % 256, (f 34 * 256 + f 35) / 256, (f 34 * 256 + f 35) % 256, (f 36 * 256 + f 37) / 256, (f 36 * 256 + f 37) % 256, (f 38 * 256 + f 39) / 256, (f 38 * 256 + f 39) % 256] ++ r = [f 0, f 1, f 2, f 3, f 4, f 5, f 6, f 7, f 8, f 9, f 10, f 11, f 12, f 13, f 14, f 15, f 16, f 17, f 18, f 19, f 20, f 21, f 22, f 23, f 24, f 25, f 26, f 27, f 28, f 29, f 30, f 31, f 32, f 33, f 34, f 35, f 36, f 37, f 38, f 39] ++ r
  rw [hl, cat_div (B 5), cat_mod (B 5), e0, e1, e2, e3, cat_div (B 9), cat_mod (B 9), cat_div (B 11), cat_mod (B 11), cat_div (B 13), cat_mod (B 13), cat_div (B 15), cat_mod (B 15), cat_div (B 17), cat_mod (B 17), cat_div (B 19), cat_mod (B 19), cat_div (B 21), cat_mod (B 21), cat_div (B 23), cat_mod (B 23), cat_div (B 25), cat_mod (B 25), cat_div (B 27), cat_mod (B 27), cat_div (B 29), cat_mod (B 29), cat_div (B 31), cat_mod (B 31), cat_div (B 33), cat_mod (B 33), cat_div (B 35), cat_mod (B 35), cat_div (B 37), cat_mod (B 37), cat_div (B 39), cat_mod (B 39)]
theorem dec6_good {xs : List Int} (hb : IsB xs) : (dec6 xs).good = true := by
  have a2 : ∀ l : List Int, IsB l → ∀ i, 0 ≤ at2 l i ∧ at2 l i ≤ 65535 := fun l hl i => by
    obtain ⟨u0, u1⟩ := hl.getD i
    obtain ⟨v0, v1⟩ := hl.getD (i + 1)
    unfold at2
    omega
  have six : ∀ l : List Int, IsB l → okS (sixAt l) = true := fun l hl => by
    unfold okS
    refine words_of fun x hx => ?_
    simp only [Six.l, sixAt, List.mem_cons, List.not_mem_nil, or_false] at hx
    rcases hx with rfl | rfl | rfl | rfl | rfl | rfl | rfl | rfl <;> exact a2 l hl _
  unfold P6.good dec6
  have h7 := hb.getD 7
  have h6 := hb.getD 6
  simp only [six _ (hb.drop 8), six _ (hb.drop 24), b8, decide_eq_true h7.1, decide_eq_true h7.2, decide_eq_true h6.1, decide_eq_true h6.2, Bool.and_self]
theorem dec6_fault {xs : List Int} (hb : IsB xs) (h : Is6 xs) : (dec6 xs).fault (xs.drop 40).length = 0 := by
  obtain ⟨⟨h0, h1⟩, _⟩ := h
  exact P6.fault_none (dec6_good hb) (by rw [List.length_drop]; omega)
end Pl
end Go.Proofs.YtkjchddidpjjmaaDoor
/- Plain laws of segments as bytes: the head, its check, what bytes may be. Conditions: as each lemma states them. -/
namespace Go.Proofs.YtkjchddidpjjmaaDoor
namespace Pl
/-- A segment's head in words, of n bytes behind it, with a check. -/
def segWords (s : Sg) (n c : Int) : List Int :=
  if s.kind = 17 then [s.frm, s.to, 8 + n, c] else [s.frm, s.to, s.seq / 65536, s.seq % 65536, s.ack / 65536, s.ack % 65536, 20480 + s.flags, s.win, c, 0]
def segBytes (s : Sg) (c : Int) (xs : List Int) : List Int := two (segWords s xs.length c) ++ xs
def segSum (s : Sg) (over : Int) (xs : List Int) : Int := 65535 - fold (over + fold (raw 0 (segBytes s 0 xs)))
def segCheck (s : Sg) (over : Int) (xs : List Int) : Int := if s.kind = 17 ∧ segSum s over xs = 0 then 65535 else segSum s over xs
def segAt (k : Int) : Nat := if k = 6 then 16 else 6
def segSize (k : Int) : Nat := if k = 6 then 20 else 8
theorem segSum_bd (s : Sg) (over : Int) (xs : List Int) : 0 ≤ segSum s over xs ∧ segSum s over xs ≤ 65535 := by
  have h0 := fold_lo (over + fold (raw 0 (segBytes s 0 xs)))
  have h1 := fold_hi (over + fold (raw 0 (segBytes s 0 xs)))
  unfold segSum
  omega
theorem segCheck_bd (s : Sg) (over : Int) (xs : List Int) : 0 ≤ segCheck s over xs ∧ segCheck s over xs ≤ 65535 := by
  have h := segSum_bd s over xs
  unfold segCheck
  split <;> omega
/-- A segment that may be, of so many bytes. -/
def SegOk (s : Sg) (n : Nat) : Prop := (s.kind = 6 ∨ s.kind = 17) ∧ Word s.frm ∧ Word s.to ∧ (0 ≤ s.seq ∧ s.seq < 4294967296) ∧ (0 ≤ s.ack ∧ s.ack < 4294967296) ∧ (0 ≤ s.flags ∧ s.flags ≤ 31) ∧ Word s.win ∧ (s.kind = 17 → s.seq = 0 ∧ s.ack = 0 ∧ s.flags = 0 ∧ s.win = 0) ∧ n ≤ 300
theorem segOk_of {s : Sg} {n : Nat} (h : segFault s n = 0) : SegOk s n := by
  unfold segFault at h
  unfold SegOk Word at *
  split at h
  · omega
  split at h
  · omega
  split at h
  · omega
  split at h
  · omega
  · omega
theorem segOk_to {s : Sg} {n : Nat} (h : SegOk s n) : segFault s n = 0 := by
  unfold SegOk Word at h
  unfold segFault Word
  rw [if_neg (by omega), if_neg (by omega), if_neg (by omega), if_neg (by omega)]
theorem segWords_bd {s : Sg} {n : Nat} {c : Int} (h : SegOk s n) (hc : 0 ≤ c ∧ c ≤ 65535) : ∀ x ∈ segWords s n c, 0 ≤ x ∧ x ≤ 65535 := by
  intro x hx
  unfold SegOk Word at h
  unfold segWords at hx
  split at hx
  all_goals
    simp only [List.mem_cons, List.not_mem_nil, or_false] at hx
    rcases hx with rfl | rfl | rfl | rfl | rfl | rfl | rfl | rfl | rfl | rfl <;> omega
theorem segBytes_isB {s : Sg} {c : Int} {xs : List Int} (h : SegOk s xs.length) (hc : 0 ≤ c ∧ c ≤ 65535) (hx : IsB xs) : IsB (segBytes s c xs) :=
  (two_isB (segWords_bd h hc)).append hx
theorem segBytes_length {s : Sg} {c : Int} {xs : List Int} (h : s.kind = 6 ∨ s.kind = 17) : (segBytes s c xs).length = segSize s.kind + xs.length := by
  unfold segBytes segSize segWords
  rw [List.length_append, two_length]
  rcases h with h | h <;> rw [h] <;> rfl
theorem raw_two : ∀ l : List Int, raw 0 (two l) = l.sum
  | [] => rfl
  | x :: r => by
    have h : two (x :: r) = [x / 256, x % 256] ++ two r := rfl
    rw [h, raw_parts [x / 256, x % 256] (two r) (show 2 % 2 = 0 from rfl), raw_two r, List.sum_cons]
    show 256 * (x / 256) + (x % 256 + 0) + _ = _
    omega
theorem two_even (l : List Int) : (two l).length % 2 = 0 := by rw [two_length]; omega
theorem segWords_sum (s : Sg) (n c : Int) : (segWords s n c).sum = (segWords s n 0).sum + c := by
  unfold segWords
  split <;> simp [List.sum_cons] <;> omega
theorem raw_seg (s : Sg) (c : Int) (xs : List Int) : raw 0 (segBytes s c xs) = raw 0 (segBytes s 0 xs) + c := by
  unfold segBytes
  rw [raw_parts _ _ (two_even _), raw_parts _ _ (two_even _), raw_two, raw_two, segWords_sum]
  omega
theorem segBytes_set (s : Sg) (c : Int) (xs : List Int) (h : s.kind = 6 ∨ s.kind = 17) : ((segBytes s 0 xs).set (segAt s.kind) (c / 256)).set (segAt s.kind + 1) (c % 256) = segBytes s c xs := by
  unfold segBytes segWords segAt
  rcases h with h | h <;> rw [h] <;> rfl

theorem split8 {xs : List Int} (h : 8 ≤ xs.length) : xs = [xs.getD 0 0, xs.getD 1 0, xs.getD 2 0, xs.getD 3 0, xs.getD 4 0, xs.getD 5 0, xs.getD 6 0, xs.getD 7 0] ++ xs.drop 8 := by
  have ht := List.take_append_drop 8 xs
  rw [take_getD xs 8 h] at ht
  exact ht.symm
theorem split20 {xs : List Int} (h : 20 ≤ xs.length) : xs = [xs.getD 0 0, xs.getD 1 0, xs.getD 2 0, xs.getD 3 0, xs.getD 4 0, xs.getD 5 0, xs.getD 6 0, xs.getD 7 0, xs.getD 8 0, xs.getD 9 0, xs.getD 10 0, xs.getD 11 0, xs.getD 12 0, xs.getD 13 0, xs.getD 14 0, xs.getD 15 0, xs.getD 16 0, xs.getD 17 0, xs.getD 18 0, xs.getD 19 0] ++ xs.drop 20 := by
  have ht := List.take_append_drop 20 xs
  rw [take_getD xs 20 h] at ht
  exact ht.symm

/-- The segment that bytes may be. -/
def decSeg (k : Int) (xs : List Int) : Sg :=
  if k = 6 then ⟨k, at2 xs 0, at2 xs 2, at2 xs 4 * 65536 + at2 xs 6, at2 xs 8 * 65536 + at2 xs 10, xs.getD 13 0 % 32, at2 xs 14⟩
  else ⟨k, at2 xs 0, at2 xs 2, 0, 0, 0, 0⟩
theorem decSeg_kind (k : Int) (xs : List Int) : (decSeg k xs).kind = k := by unfold decSeg; split <;> rfl
/-- Bytes that are of the form. -/
def IsSeg (k : Int) (xs : List Int) : Prop :=
  (segSize k ≤ xs.length ∧ xs.length ≤ segSize k + 300) ∧ (k = 6 → xs.getD 12 0 = 80 ∧ xs.getD 13 0 ≤ 31 ∧ xs.getD 18 0 = 0 ∧ xs.getD 19 0 = 0) ∧ (k = 17 → at2 xs 4 = xs.length)
instance (k : Int) (xs : List Int) : Decidable (IsSeg k xs) := by unfold IsSeg; infer_instance

theorem seg_tcp {xs : List Int} (hb : IsB xs) (c : Int) (r : List Int) :
    segBytes (decSeg 6 xs) c r = [xs.getD 0 0, xs.getD 1 0, xs.getD 2 0, xs.getD 3 0, xs.getD 4 0, xs.getD 5 0, xs.getD 6 0, xs.getD 7 0, xs.getD 8 0, xs.getD 9 0, xs.getD 10 0, xs.getD 11 0, 80, xs.getD 13 0 % 32, xs.getD 14 0, xs.getD 15 0, c / 256, c % 256, 0, 0] ++ r := by
  have B := fun i => hb.getD i
  have b0 := B 0
  have b1 := B 1
  have b2 := B 2
  have b3 := B 3
  have b4 := B 4
  have b5 := B 5
  have b6 := B 6
  have b7 := B 7
  have b8 := B 8
  have b9 := B 9
  have b10 := B 10
  have b11 := B 11
  have b13 := B 13
  have b14 := B 14
  have b15 := B 15
  unfold segBytes decSeg segWords at2
  simp only [if_pos, Nat.zero_add]
  generalize xs.getD 0 0 = f0 at *
  generalize xs.getD 1 0 = f1 at *
  generalize xs.getD 2 0 = f2 at *
  generalize xs.getD 3 0 = f3 at *
  generalize xs.getD 4 0 = f4 at *
  generalize xs.getD 5 0 = f5 at *
  generalize xs.getD 6 0 = f6 at *
  generalize xs.getD 7 0 = f7 at *
  generalize xs.getD 8 0 = f8 at *
  generalize xs.getD 9 0 = f9 at *
  generalize xs.getD 10 0 = f10 at *
  generalize xs.getD 11 0 = f11 at *
  generalize xs.getD 13 0 = f13 at *
  generalize xs.getD 14 0 = f14 at *
  generalize xs.getD 15 0 = f15 at *
  clear B hb
  rw [if_neg (by decide)]
  have e1 : ((f4 * 256 + f5) * 65536 + (f6 * 256 + f7)) / 65536 = f4 * 256 + f5 := by omega
  have e2 : ((f4 * 256 + f5) * 65536 + (f6 * 256 + f7)) % 65536 = f6 * 256 + f7 := by omega
  have e3 : ((f8 * 256 + f9) * 65536 + (f10 * 256 + f11)) / 65536 = f8 * 256 + f9 := by omega
  have e4 : ((f8 * 256 + f9) * 65536 + (f10 * 256 + f11)) % 65536 = f10 * 256 + f11 := by omega
  rw [e1, e2, e3, e4]
  show [(f0 * 256 + f1) / 256, (f0 * 256 + f1) % 256, (f2 * 256 + f3) / 256, (f2 * 256 + f3) % 256, (f4 * 256 + f5) / 256, (f4 * 256 + f5) % 256, (f6 * 256 + f7) / 256, (f6 * 256 + f7) % 256, (f8 * 256 + f9) / 256, (f8 * 256 + f9) % 256, (f10 * 256 + f11) / 256, (f10 * 256 + f11) % 256, (20480 + f13 % 32) / 256, (20480 + f13 % 32) % 256, (f14 * 256 + f15) / 256, (f14 * 256 + f15) % 256, c / 256, c % 256, 0, 0] ++ r = _
  have e5 : (20480 + f13 % 32) / 256 = 80 := by omega
  have e6 : (20480 + f13 % 32) % 256 = f13 % 32 := by omega
  rw [cat_div b1, cat_mod b1, cat_div b3, cat_mod b3, cat_div b5, cat_mod b5, cat_div b7, cat_mod b7, cat_div b9, cat_mod b9, cat_div b11, cat_mod b11, cat_div b15, cat_mod b15, e5, e6]
theorem seg_udp {xs : List Int} (hb : IsB xs) (c : Int) (r : List Int) :
    segBytes (decSeg 17 xs) c r = [xs.getD 0 0, xs.getD 1 0, xs.getD 2 0, xs.getD 3 0, (8 + (r.length : Int)) / 256, (8 + (r.length : Int)) % 256, c / 256, c % 256] ++ r := by
  have b0 := hb.getD 0
  have b1 := hb.getD 1
  have b2 := hb.getD 2
  have b3 := hb.getD 3
  unfold segBytes decSeg segWords at2
  simp only [show ¬ ((17 : Int) = 6) from by decide, if_false, Nat.zero_add]
  generalize xs.getD 0 0 = f0 at *
  generalize xs.getD 1 0 = f1 at *
  generalize xs.getD 2 0 = f2 at *
  generalize xs.getD 3 0 = f3 at *
  rw [if_pos trivial]
  show [(f0 * 256 + f1) / 256, (f0 * 256 + f1) % 256, (f2 * 256 + f3) / 256, (f2 * 256 + f3) % 256, (8 + (r.length : Int)) / 256, (8 + (r.length : Int)) % 256, c / 256, c % 256] ++ r = _
  rw [cat_div b1, cat_mod b1, cat_div b3, cat_mod b3]

/-- What is of the form is written so. -/
theorem dec_enc {k : Int} {xs : List Int} (hk : k = 6 ∨ k = 17) (hb : IsB xs) (h : IsSeg k xs) : segBytes (decSeg k xs) (at2 xs (segAt k)) (xs.drop (segSize k)) = xs := by
  obtain ⟨⟨h0, h1⟩, h6, h17⟩ := h
  rcases hk with rfl | rfl
  · obtain ⟨e1, e2, e3, e4⟩ := h6 rfl
    have hs : segSize 6 = 20 := rfl
    have ha : segAt 6 = 16 := rfl
    rw [hs] at h0 ⊢
    rw [ha, seg_tcp hb]
    have hsp := split20 h0
    have b13 := hb.getD 13
    have b17 := hb.getD 17
    conv => rhs; rw [hsp]
    have e5 : xs.getD 13 0 % 32 = xs.getD 13 0 := by omega
    unfold at2
    rw [e5, e1, e3, e4, cat_div b17, cat_mod b17]
  · have e := h17 rfl
    have hs : segSize 17 = 8 := rfl
    have ha : segAt 17 = 6 := rfl
    rw [hs] at h0 ⊢
    rw [ha, seg_udp hb]
    have hsp := split8 h0
    have b5 := hb.getD 5
    have b7 := hb.getD 7
    conv => rhs; rw [hsp]
    have hl : (8 + ((xs.drop 8).length : Int)) = xs.getD 4 0 * 256 + xs.getD 5 0 := by
      rw [List.length_drop]
      have e' : xs.getD 4 0 * 256 + xs.getD 5 0 = xs.length := e
      omega
    unfold at2
    rw [hl, cat_div b5, cat_mod b5, cat_div b7, cat_mod b7]
theorem cat_at {f g c : Int} (h0 : c / 256 = f) (h1 : c % 256 = g) : f * 256 + g = c := by omega
/-- What is written so is of the form. -/
theorem enc_is {k : Int} {xs : List Int} {c : Int} (hk : k = 6 ∨ k = 17) (hb : IsB xs) (h0 : segSize k ≤ xs.length ∧ xs.length ≤ segSize k + 300) (h : segBytes (decSeg k xs) c (xs.drop (segSize k)) = xs) : IsSeg k xs ∧ at2 xs (segAt k) = c := by
  rcases hk with rfl | rfl
  · have hs : segSize 6 = 20 := rfl
    have ha : segAt 6 = 16 := rfl
    rw [hs] at h0 h
    rw [seg_tcp hb] at h
    have g := fun i => congrArg (fun l : List Int => l.getD i 0) h
    have g12 : (80 : Int) = xs.getD 12 0 := g 12
    have g13 : xs.getD 13 0 % 32 = xs.getD 13 0 := g 13
    have g16 : c / 256 = xs.getD 16 0 := g 16
    have g17 : c % 256 = xs.getD 17 0 := g 17
    have g18 : (0 : Int) = xs.getD 18 0 := g 18
    have g19 : (0 : Int) = xs.getD 19 0 := g 19
    refine ⟨⟨by rw [hs]; exact h0, fun _ => ⟨g12.symm, by omega, g18.symm, g19.symm⟩, (fun h => by cases h)⟩, ?_⟩
    rw [ha]
    exact cat_at g16 g17
  · have hs : segSize 17 = 8 := rfl
    have ha : segAt 17 = 6 := rfl
    rw [hs] at h0 h
    rw [seg_udp hb] at h
    have g := fun i => congrArg (fun l : List Int => l.getD i 0) h
    have g4 : (8 + ((xs.drop 8).length : Int)) / 256 = xs.getD 4 0 := g 4
    have g5 : (8 + ((xs.drop 8).length : Int)) % 256 = xs.getD 5 0 := g 5
    have g6 : c / 256 = xs.getD 6 0 := g 6
    have g7 : c % 256 = xs.getD 7 0 := g 7
    refine ⟨⟨by rw [hs]; exact h0, (fun h => by cases h), fun _ => ?_⟩, ?_⟩
    · have := cat_at g4 g5
      rw [List.length_drop] at this
      show xs.getD 4 0 * 256 + xs.getD 5 0 = _
      omega
    · rw [ha]
      exact cat_at g6 g7
/-- With the check of the bytes themselves. -/
def patchS (k : Int) (l m : List Int) : List Int := l.take (segAt k) ++ ((m.drop (segAt k)).take 2 ++ l.drop (segAt k + 2))
theorem patch_seg {k : Int} {xs : List Int} {c : Int} (hk : k = 6 ∨ k = 17) (hb : IsB xs) (h0 : segSize k ≤ xs.length) (r : List Int) : patchS k (segBytes (decSeg k xs) c r) xs = segBytes (decSeg k xs) (at2 xs (segAt k)) r := by
  rcases hk with rfl | rfl
  · have hs : segSize 6 = 20 := rfl
    have ha : segAt 6 = 16 := rfl
    rw [hs] at h0
    unfold patchS
    rw [ha, seg_tcp hb, seg_tcp hb]
    have hd : (xs.drop 16).take 2 = [xs.getD 16 0, xs.getD 17 0] := by
      conv => lhs; rw [split20 h0]
      rfl
    rw [hd]
    have b17 := hb.getD 17
    unfold at2
    rw [cat_div b17, cat_mod b17]
    rfl
  · have hs : segSize 17 = 8 := rfl
    have ha : segAt 17 = 6 := rfl
    rw [hs] at h0
    unfold patchS
    rw [ha, seg_udp hb, seg_udp hb]
    have hd : (xs.drop 6).take 2 = [xs.getD 6 0, xs.getD 7 0] := by
      conv => lhs; rw [split8 h0]
      rfl
    rw [hd]
    have b7 := hb.getD 7
    unfold at2
    rw [cat_div b7, cat_mod b7]
    rfl
theorem at2_rng {l : List Int} (h : IsB l) (i : Nat) : 0 ≤ at2 l i ∧ at2 l i ≤ 65535 := by
  have h0 := h.getD i
  have h1 := h.getD (i + 1)
  unfold at2
  omega
theorem decSeg_ok {k : Int} {xs : List Int} (hk : k = 6 ∨ k = 17) (hb : IsB xs) {n : Nat} (hn : n ≤ 300) : SegOk (decSeg k xs) n := by
  have a2 := fun i => at2_rng hb i
  have h0 := a2 0
  have h2 := a2 2
  have h4 := a2 4
  have h6 := a2 6
  have h8 := a2 8
  have h10 := a2 10
  have h14 := a2 14
  have h13 := hb.getD 13
  unfold SegOk decSeg Word
  rcases hk with rfl | rfl
  · rw [if_pos rfl]
    dsimp only
    omega
  · rw [if_neg (by decide)]
    dsimp only
    omega
/-- What bytes are, as a segment over something: the segment, its bytes, the fault. -/
def segQ (k : Int) (xs : List Int) (over : Int) : Int :=
  if ¬ (k = 6 ∨ k = 17) ∨ ¬ Word over then 1 else if ¬ IsSeg k xs then 5
  else if at2 xs (segAt k) = segCheck (decSeg k xs) over (xs.drop (segSize k)) then 0 else 6
end Pl
end Go.Proofs.YtkjchddidpjjmaaDoor
/- Plain laws of segments: what is written is read, all sums up to 65535, one byte turned is noticed. Conditions: as each lemma states them. -/
namespace Go.Proofs.YtkjchddidpjjmaaDoor
namespace Pl
theorem segBytes_drop {s : Sg} {c : Int} {xs : List Int} (h : s.kind = 6 ∨ s.kind = 17) : (segBytes s c xs).drop (segSize s.kind) = xs := by
  unfold segBytes segWords segSize
  rcases h with h | h <;> rw [h] <;> rfl
theorem segBytes_at {s : Sg} {c : Int} {xs : List Int} (h : s.kind = 6 ∨ s.kind = 17) : at2 (segBytes s c xs) (segAt s.kind) = c := by
  have e : c / 256 * 256 + c % 256 = c := by omega
  unfold segBytes segWords segAt at2
  rcases h with h | h <;> rw [h] <;> exact e
theorem segBytes_is {s : Sg} {c : Int} {xs : List Int} (h : SegOk s xs.length) : IsSeg s.kind (segBytes s c xs) := by
  have hk := h.1
  have hl := segBytes_length (c := c) (xs := xs) hk
  obtain ⟨_, _, _, _, _, ⟨f0, f1⟩, _, _, hn⟩ := h
  refine ⟨by omega, fun hk6 => ?_, fun hk17 => ?_⟩
  · unfold segBytes segWords
    rw [hk6, if_neg (by decide)]
    have e1 : (20480 + s.flags) / 256 = 80 := by omega
    have e2 : (20480 + s.flags) % 256 ≤ 31 := by omega
    exact ⟨e1, e2, rfl, rfl⟩
  · have e : (8 + (xs.length : Int)) / 256 * 256 + (8 + (xs.length : Int)) % 256 = ((segBytes s c xs).length : Int) := by
      rw [hl, hk17, show segSize 17 = 8 from rfl]; omega
    rw [← e]
    unfold segBytes segWords at2
    rw [hk17]
    rfl
theorem segBytes_dec {s : Sg} {c : Int} {xs : List Int} (h : SegOk s xs.length) : decSeg s.kind (segBytes s c xs) = s := by
  unfold SegOk Word at h
  obtain ⟨k, f, t, q, a, fl, w⟩ := s
  dsimp only at h ⊢
  obtain ⟨rfl | rfl, hf, ht, hq, ha, hfl, hw, hz, hn⟩ := h
  · show (⟨6, f / 256 * 256 + f % 256, t / 256 * 256 + t % 256, (q / 65536 / 256 * 256 + q / 65536 % 256) * 65536 + (q % 65536 / 256 * 256 + q % 65536 % 256), (a / 65536 / 256 * 256 + a / 65536 % 256) * 65536 + (a % 65536 / 256 * 256 + a % 65536 % 256), (20480 + fl) % 256 % 32, w / 256 * 256 + w % 256⟩ : Sg) = _
    have e1 : f / 256 * 256 + f % 256 = f := by omega
    have e2 : t / 256 * 256 + t % 256 = t := by omega
    have e3 : (q / 65536 / 256 * 256 + q / 65536 % 256) * 65536 + (q % 65536 / 256 * 256 + q % 65536 % 256) = q := by omega
    have e4 : (a / 65536 / 256 * 256 + a / 65536 % 256) * 65536 + (a % 65536 / 256 * 256 + a % 65536 % 256) = a := by omega
    have e5 : (20480 + fl) % 256 % 32 = fl := by omega
    have e6 : w / 256 * 256 + w % 256 = w := by omega
    rw [e1, e2, e3, e4, e5, e6]
  · show (⟨17, f / 256 * 256 + f % 256, t / 256 * 256 + t % 256, 0, 0, 0, 0⟩ : Sg) = _
    have e1 : f / 256 * 256 + f % 256 = f := by omega
    have e2 : t / 256 * 256 + t % 256 = t := by omega
    obtain ⟨rfl, rfl, rfl, rfl⟩ := hz rfl
    rw [e1, e2]
theorem segQ_enc {s : Sg} {over : Int} {xs : List Int} (h : SegOk s xs.length) (ho : Word over) : segQ s.kind (segBytes s (segCheck s over xs) xs) over = 0 := by
  have hk := h.1
  unfold segQ
  rw [if_neg (by rintro (h1 | h1); exact h1 hk; exact h1 ho), if_neg (fun hn => hn (segBytes_is h)), segBytes_at hk, segBytes_drop hk, segBytes_dec h, if_pos rfl]

theorem fold_over {over : Int} (h : Word over) {r : Int} (hr : 0 ≤ r) : fold (over + fold r) = fold (over + r) := by
  have e := fold_add (a := over) (b := r) h.1 hr
  rwa [fold_small h.1 h.2] at e
theorem fold_over' {over : Int} (h : Word over) {r : Int} (hr : 0 ≤ r) : fold (fold r + over) = fold (r + over) := by
  rw [Int.add_comm, fold_over h hr, Int.add_comm]
/-- All together is 65535. -/
theorem seg_all {s : Sg} {over : Int} {xs : List Int} (hk : SegOk s xs.length) (hx : IsB xs) (ho : Word over) : fold (fold (raw 0 (segBytes s (segCheck s over xs) xs)) + over) = 65535 := by
  have h0 := (raw_bd (segBytes_isB (c := 0) hk (by decide) hx) 0).1
  have hc := segCheck_bd s over xs
  rw [raw_seg]
  generalize hR : raw 0 (segBytes s 0 xs) = R at *
  have hS : segSum s over xs = 65535 - fold (over + R) := by
    unfold segSum
    rw [hR, fold_over ho h0]
  rw [fold_over' ho (by omega)]
  have h1 := ho.1
  unfold segCheck
  split
  case isTrue h =>
    have h2 : fold (over + R) = 65535 := by omega
    have h3 : over + R ≠ 0 := fun h => by rw [h] at h2; cases h2
    rw [← h2]
    refine fold_congr (k := 1) (by omega) h3 ?_
    omega
  case isFalse h =>
    rw [hS, show R + (65535 - fold (over + R)) + over = (over + R) + (65535 - fold (over + R)) by omega]
    exact fold_check (by omega)
/-- Of another one over it the check is another one. -/
theorem seg_other {s : Sg} {over other : Int} {xs : List Int} (hk : SegOk s xs.length) (hx : IsB xs) (h0 : 0 ≤ over ∧ over < 65535) (h1 : 0 ≤ other ∧ other < 65535) (hne : other ≠ over) : segCheck s over xs ≠ segCheck s other xs := by
  have hR := (raw_bd (segBytes_isB (c := 0) hk (by decide) hx) 0).1
  have key : ∀ o, 0 ≤ o → o < 65535 → ∃ k, segCheck s o xs = 65535 - (o + raw 0 (segBytes s 0 xs)) + 65535 * k := fun o o0 o1 => by
    obtain ⟨k, hk⟩ := fold_eq (o + raw 0 (segBytes s 0 xs))
    have hS : segSum s o xs = 65535 - fold (o + raw 0 (segBytes s 0 xs)) := by
      unfold segSum
      rw [fold_over ⟨o0, by omega⟩ hR]
    unfold segCheck
    split
    · exact ⟨-k + 1, by omega⟩
    · exact ⟨-k, by omega⟩
  obtain ⟨k1, e1⟩ := key over h0.1 h0.2
  obtain ⟨k2, e2⟩ := key other h1.1 h1.2
  intro h
  omega
/-- One byte is another one: it sums up to something else. -/
theorem flip_sum {xs : List Int} {over y : Int} {j : Nat} (hx : IsB xs) (ho : Word over) (hj : j < xs.length) (hy : 0 ≤ y ∧ y ≤ 255) (hne : y ≠ xs.getD j 0) (h : fold (fold (raw 0 xs) + over) = 65535) (h2 : fold (fold (raw 0 (xs.set j y)) + over) = 65535) : False := by
  have hb := hx.getD j
  have r0 := (raw_bd hx 0).1
  have r1 := (raw_bd (hx.set j hy.1 hy.2) 0).1
  have e := raw_set xs y 0 j hj
  rw [fold_over' ho r0] at h
  rw [fold_over' ho r1] at h2
  obtain ⟨k1, e1⟩ := fold_eq (raw 0 xs + over)
  obtain ⟨k2, e2⟩ := fold_eq (raw 0 (xs.set j y) + over)
  split at e <;> omega
theorem segQ_zero {k : Int} {xs : List Int} {over : Int} (hb : IsB xs) (h : segQ k xs over = 0) : (k = 6 ∨ k = 17) ∧ Word over ∧ IsSeg k xs ∧ segBytes (decSeg k xs) (segCheck (decSeg k xs) over (xs.drop (segSize k))) (xs.drop (segSize k)) = xs ∧ SegOk (decSeg k xs) (xs.drop (segSize k)).length := by
  unfold segQ at h
  split at h
  · cases h
  rename_i h0
  have hk : k = 6 ∨ k = 17 := Decidable.byContradiction fun hn => h0 (.inl hn)
  have ho : Word over := Decidable.byContradiction fun hn => h0 (.inr hn)
  split at h
  · cases h
  rename_i h1
  have hi : IsSeg k xs := Decidable.byContradiction h1
  split at h
  · rename_i h2
    refine ⟨hk, ho, hi, ?_, decSeg_ok hk hb ?_⟩
    · rw [← h2]; exact dec_enc hk hb hi
    · have := hi.1.2
      rw [List.length_drop]
      omega
  · cases h
theorem segQ_flip {k : Int} {xs : List Int} {over y : Int} {j : Nat} (hx : IsB xs) (ho : Word over) (hj : j < xs.length) (hy : 0 ≤ y ∧ y ≤ 255) (hne : y ≠ xs.getD j 0) (h : fold (fold (raw 0 xs) + over) = 65535) : segQ k (xs.set j y) over ≠ 0 := by
  intro hq
  have hb := hx.set j hy.1 hy.2
  obtain ⟨hk, _, hi, he, hok⟩ := segQ_zero hb hq
  have ha := seg_all hok (hb.drop _) ho
  rw [he] at ha
  exact flip_sum hx ho hj hy hne h ha
end Pl
end Go.Proofs.YtkjchddidpjjmaaDoor
/- append of bytes just made, with where the outcome lies. Conditions: as each lemma states them. -/
namespace Go.Proofs.YtkjchddidpjjmaaDoor
open Go.RowKit

theorem Ints.keepBy {k : IntKind} {w w' : World} {a : Option Addr} {n : Nat} {xs : List Int} {row : Option Nat} (h : Ints k w a n xs) (hb : w.grownBy w' row) (hg : ∀ p, a = some p → some p.block ≠ row) : Ints k w' a n xs := by
  refine ⟨h.1, ?_⟩
  rcases h.2 with h0 | ⟨b, off, rfl, hc⟩
  · exact .inl h0
  · refine .inr ⟨b, off, rfl, fun i hi => ?_⟩
    have := hc i hi
    rw [World.cell?_of_block (hb.block b (World.block_lt_of_cell? w _ this) (hg _ rfl))]
    exact this

theorem getD_all2 {xs : List Int} (h : ∀ x ∈ xs, 0 ≤ x ∧ x ≤ 65535) (k : Nat) : 0 ≤ xs.getD k 0 ∧ xs.getD k 0 ≤ 65535 := by
  by_cases hk : k < xs.length
  · rw [List.getD_eq_getElem?_getD, List.getElem?_eq_getElem hk]
    exact h _ (List.getElem_mem hk)
  · rw [List.getD_eq_getElem?_getD, List.getElem?_eq_none (by omega)]
    exact ⟨Int.le_refl 0, by decide⟩

/-- At a step of a region that draws its order. -/
theorem step_appL {w : World} {ops : Array Oper} {o : Oper} {a : Act} {K : Act → World → Prop} {Q : Exit → Act → World → Prop} {E : Prop} (hgd : o.guard = none) (s x : Operand)
    (ho : o.op = .call { callee := .builtin .append, args := #[s, x], argTypes := #[40, 40] })
    (B : Nat) (v : Value) (ys : List Int) (hs : a.eval s = v) (hown : Own w B v ys) (b off m c : Nat) (xs : List Int) (hx : a.eval x = .slice (some ⟨b, off, none⟩) m c) (hr : Ints .u8 w (some ⟨b, off, none⟩) m xs)
    (hm : 0 < m) (hmax : ys.length + m ≤ 1099511627776) (hbase : B ≤ w.heap.size)
    (h : ∀ v' w', Own w' B v' (ys ++ xs) → Below B w w' → w.grownBy w' v.ownBlock → (∀ k, v'.ownBlock = some k → v.ownBlock = some k ∨ k = w.heap.size) → K (a.put o.dst v') w') :
    if Region.wanted o (yielded ops a.tmps) = true then Oper.wp Tryd.prog o a w K Q else E := by
  obtain ⟨i0, hi, hz0, hz1, hz2⟩ := info_parts Tryd.infoU8
  obtain ⟨b', off', hb, _, hc⟩ := hr.at hm
  simp only [Option.some.injEq, Addr.mk.injEq, and_true] at hb
  obtain ⟨rfl, rfl⟩ := hb
  have hl : (bcells xs).length = m * 1 := by rw [bcells_length, hr.len, Nat.mul_one]
  refine step_append_lies w hgd s x _ ho B _ i0 _ 1 1 Tryd.underlying40 hi hz0 hz1 hz2 rfl (by decide) v _ (bcells ys) hs hown ⟨b, off, none⟩ m c (bcells xs) hx hl ?_ (bcells_one xs) hm (by unfold maxLen; omega) (by omega) hbase _ rfl ?_
  · intro j u hj
    have hlt : j < m := by have := (List.getElem?_eq_some_iff.1 hj).1; rw [bcells_length, hr.len] at this; exact this
    have hlt' : j < xs.length := by rw [hr.len]; exact hlt
    rw [bcells, List.getElem?_map, List.getElem?_eq_getElem hlt'] at hj
    simp only [Option.map_some, Option.some.injEq] at hj
    rw [← hj]
    have := hc j hlt
    simp [List.getD, hlt'] at this
    rw [Addr.add_lit]
    exact this
  · intro g cap w' ho' hg hv _
    refine h _ w' ?_ ((Below.refl B w).grown hg hbase fun k hk => (hown.lt k hk).1) hg fun k hk => ?_
    · unfold Own
      rw [List.length_append, hr.len, ← bcells_append]
      exact ho'
    · cases hk
      exact hv
end Go.Proofs.YtkjchddidpjjmaaDoor
