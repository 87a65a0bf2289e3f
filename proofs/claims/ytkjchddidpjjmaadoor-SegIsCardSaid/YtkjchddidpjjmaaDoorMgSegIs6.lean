/- Texts of this seat in one file (Concat, Told, Same, Over, Over4, Over6, Ref6, RefH): contracts and plain laws. Conditions: as each lemma states them. -/
import Derived.Test.YtkjchddidpjjmaaDoorMgSegIs1
import Derived.Test.YtkjchddidpjjmaaDoorMgSegIs2
import Derived.Test.YtkjchddidpjjmaaDoorMgSegIs3
import Derived.Test.YtkjchddidpjjmaaDoorMgSegIs4
import Derived.Test.YtkjchddidpjjmaaDoorMgSegIs5
import Derived.Lib.AppendZerosOnto
import Derived.Deep.DeepCutAuto
import Derived.Deep.RegionLaw
import Derived.BigQuiet
/- The contracts of slices.Grow at nil and of slices.Concat at two slices of bytes. Conditions: as each theorem states them. -/
namespace Go.Proofs.YtkjchddidpjjmaaDoor
open Go.RowKit

set_option maxRecDepth 100000 in
set_option maxHeartbeats 1000000 in
theorem grow_nil (n : Nat) (w : World) (hn : n ≤ 100000) :
    Calls Tryd.prog 92 #[.slice none 0 0, .int .i64 n] w fun e w' => ∃ v, e = .returned v ∧ Own w' w.heap.size v [] ∧ Ext w w' := by
  have h1 : ¬ (n : Int) < 0 := by omega
  rcases Nat.eq_zero_or_pos n with h0 | h0
  · subst h0
    go_enter Tryd.func92, Tryd.ntmps92
    go_wp2
    go_ret
    exact ⟨_, rfl, Own.nil _ _, Ext.refl _⟩
  · obtain ⟨i0, hi, hz0, hz1, hz2⟩ := info_parts Tryd.infoU8
    have hold : (Builtin.firstCells i0.size 0 (.slice none 0 0)).run Tryd.prog w.drew = .ok ([] : List Value).toArray w.drew := run_firstCells_none _ _ _ _ _
    have hrz : ∀ ty, (Builtin.append_ #[40, 3] ty #[.slice none 0 0, .int .i64 n]).run Tryd.prog w = _ := fun ty =>
      Lib.run_append_grow_zeros w 40 3 ty 5 i0 (.int .u8 0) .i64 .i64 Tryd.underlying40 Tryd.underlying3 hi hz0 none 0 0 [] hold n h0 (by omega) (by omega) (by omega) (by rw [hz2]; omega) (growslice_fits (by omega) (by rw [hz2]; omega))
    rw [Nat.zero_add] at hrz
    have hG := grownCap_le_maxLen w n 0 5 (by unfold maxLen; omega)
    have hGn := grownCap_ge w n 0 5
    have hsz : (([] : List Value).toArray ++ Builtin.zeroCells (Value.int .u8 0).cells n ++ Builtin.zeroCells (Value.int .u8 0).cells (grownCap w n 0 5 - n)).size = grownCap w n 0 5 * 1 := by
      simp [Builtin.zeroCells, Value.cells]; omega
    generalize hcs : ([] : List Value).toArray ++ Builtin.zeroCells (Value.int .u8 0).cells n ++ Builtin.zeroCells (Value.int .u8 0).cells (grownCap w n 0 5 - n) = cs at hrz hsz
    have hcap : (grownCap w n 0 5 : Int) ≤ 9223372036854775807 := by unfold maxLen at hG; omega
    generalize grownCap w n 0 5 = G at *
    have hown : Own (w.drew.alloc (.cells cs 5)) w.heap.size (.slice (some ⟨w.heap.size, 0, none⟩) 0 G) [] :=
      World.ownsRow_made (w := w.drew) cs G (Nat.le_refl _) hG hsz
    have HO := Lib.hid hown
    have hn1 : (0 : Int) < (n : Int) := by omega
    have ew : IntKind.i64.wrap (n : Int) = n := IntWalk.i64_in _ (by omega)
    clear hold hcs hsz hown hi hz0 hz1 hz2 hGn hG
    go_enter Tryd.func92, Tryd.ntmps92
    go_wp2_with (at_builtin; refine Lib.wpList_append_run _ rfl _ _ _ _ rfl _ _ rfl rfl _ _ (hrz _) ?_)
    go_ret
    exact ⟨_, rfl, HO.out, ((Ext.refl w).drew).alloc _⟩

set_option maxRecDepth 100000 in
set_option maxHeartbeats 2000000 in
theorem concat2 (g : Nat) (a1 : Option Addr) (n1 c1 : Nat) (x1 : List Int) (a2 : Option Addr) (n2 c2 : Nat) (x2 : List Int) (w : World) (K : Blk w g 40 #[.slice a1 n1 c1, .slice a2 n2 c2])
    (h1 : Ints .u8 w a1 n1 x1) (h2 : Ints .u8 w a2 n2 x2) (hn : n1 + n2 ≤ 10000) :
    Calls Tryd.prog 61 #[.slice (some ⟨g, 0, none⟩) 2 2] w fun e w' => ∃ v, e = .returned v ∧ Own w' w.heap.size v (x1 ++ x2) ∧ Ext w w' := by
  have H1 := Lib.hid h1
  have H2 := Lib.hid h2
  have HK := Lib.hid K
  have k0 : w.cell? ⟨g, 0, none⟩ = some (.slice a1 n1 c1) := K.cells 0
  have k1 : w.cell? ⟨g, 1, none⟩ = some (.slice a2 n2 c2) := K.cells 1
  have HC := Lib.hid (show (n1 : Int) + (n2 : Int) = ((n1 + n2 : Nat) : Int) by omega)
  have hz1 : ¬ (n1 : Int) < 0 := by omega
  clear h1 h2 K
  go_enter Tryd.func61, Tryd.ntmps61
  go_wp2_with fail
  go_loopw [3, 11] (fun s k wr => w = wr ∧ ((k = .int .i64 0 ∧ s = .int .i64 0) ∨ (k = .int .i64 1 ∧ s = .int .i64 n1) ∨ (k = .int .i64 2 ∧ s = .int .i64 ((n1 + n2 : Nat) : Int)))) (fun _ k _ => 2 - (intOf k).toNat)
  case atStart => exact ⟨rfl, .inl ⟨rfl, rfl⟩⟩
  case round =>
    obtain ⟨rfl, ⟨rfl, rfl⟩ | ⟨rfl, rfl⟩ | ⟨rfl, rfl⟩⟩ := hrel
    · go_wp2_with fail
      go_roundw
      case rel => exact ⟨trivial, .inr (.inl ⟨rfl, rfl⟩)⟩
      case measure => simp [intOf]
    · have hz2 : ¬ (n1 : Int) + (n2 : Int) < 0 := by omega
      have ew : IntKind.i64.wrap ((n1 : Int) + (n2 : Int)) = (n1 : Int) + (n2 : Int) := IntWalk.i64_in _ (by omega)
      go_wp2_with fail
      go_roundw
      case rel => exact ⟨trivial, .inr (.inr ⟨rfl, by rw [HC.out]⟩)⟩
      case measure => simp [intOf]
    · generalize hN : n1 + n2 = N at *
      go_wp2_with fail
      refine (grow_nil N w (by omega)).mono ?_
      rintro e W1 ⟨v, rfl, o1, q1⟩
      clear k0 k1
      go_wp2_with fail
      go_loopw [6, 27] (fun v k wr => ∃ ys, Own wr w.heap.size v ys ∧ Ext w wr ∧ ((k = .int .i64 0 ∧ ys = []) ∨ (k = .int .i64 1 ∧ ys = x1) ∨ (k = .int .i64 2 ∧ ys = x1 ++ x2))) (fun _ k _ => 2 - (intOf k).toNat)
      case atStart => exact ⟨[], o1, q1, .inl ⟨rfl, rfl⟩⟩
      case round =>
        obtain ⟨ys, oy, qy, hk⟩ := hrel
        have KW := HK.out.ext qy
        have j0 : wr.cell? ⟨g, 0, none⟩ = some (.slice a1 n1 c1) := KW.cells 0
        have j1 : wr.cell? ⟨g, 1, none⟩ = some (.slice a2 n2 c2) := KW.cells 1
        clear KW
        rcases hk with ⟨rfl, rfl⟩ | ⟨rfl, rfl⟩ | ⟨rfl, rfl⟩
        · go_wp2_with (at_builtin; refine Halt.out ?_)
          refine Halt.mk ?_
          refine app rfl _ _ rfl w.heap.size _ [] rfl oy _ n1 c1 x1 rfl (H1.out.ext qy) (by simp; omega) qy.size ?_
          intro v' w' o' b'
          clear j0 j1
          go_wp2_with fail
          go_roundw
          case rel => exact ⟨x1, o', Below.trans qy b', .inr (.inl ⟨rfl, rfl⟩)⟩
          case measure => simp [intOf]
        · go_wp2_with (at_builtin; refine Halt.out ?_)
          refine Halt.mk ?_
          refine app rfl _ _ rfl w.heap.size _ _ rfl oy _ n2 c2 x2 rfl (H2.out.ext qy) (by rw [H1.out.len]; omega) qy.size ?_
          intro v' w' o' b'
          clear j0 j1
          go_wp2_with fail
          go_roundw
          case rel => exact ⟨_, o', Below.trans qy b', .inr (.inr ⟨rfl, rfl⟩)⟩
          case measure => simp [intOf]
        · clear j0 j1
          go_wp2_with fail
          go_ret
          exact ⟨_, rfl, oy, qy⟩
end Go.Proofs.YtkjchddidpjjmaaDoor
/- plain.Told and gangplanksame.Error of nil and of an Errno. Conditions: the variable errors.errorType holds the handle that the row lists (Handle). -/
namespace Go.Proofs.YtkjchddidpjjmaaDoor
open Go.RowKit

theorem Handle.below {w w' : World} (h : Handle w) (hb : Below w.heap.size w w') : Handle w' := by
  unfold Handle at *
  rw [hb.cell (World.block_lt_of_cell? w _ h)]
  exact h

theorem told_nil (w : World) : Calls Tryd.prog 47 #[.nilIface] w fun e w' => e = .returned (.int .i64 0) ∧ w = w' := by
  go_enter Tryd.func47, Tryd.ntmps47
  go_wp2
  go_ret
  exact ⟨rfl, rfl⟩
theorem told_err (n : Int) (w : World) (hg : Handle w) : Calls Tryd.prog 47 #[errv n] w fun e w' => e = .returned (.int .i64 n) ∧ Below w.heap.size w w' := by
  have hb : Below w.heap.size w (w.alloc (.cells #[.int .i64 0] 24)) := by go_grown
  have H := Lib.hid (hg.below hb)
  have hc : (w.alloc (.cells #[.int .i64 0] 24)).cell? ⟨w.heap.size, 0, none⟩ = some (.int .i64 0) := by simp
  have hf : (w.alloc (.cells #[.int .i64 0] 24)).frozen? ⟨w.heap.size, 0, none⟩ = false := by simp
  have hz : w.heap.size < (w.alloc (.cells #[.int .i64 0] 24)).heap.size := by simp
  have HC := Lib.hid hc
  have HF := Lib.hid hf
  clear hg hc hf
  unfold errv
  go_enter Tryd.func47, Tryd.ntmps47
  go_wp2_with fail
  generalize w.alloc (.cells #[.int .i64 0] 24) = W1 at *
  with_reducible refine (as_hit n ⟨w.heap.size, 0, none⟩ _ W1 H.out HC.out HF.out).mono ?_
  rintro e w' ⟨rfl, X, hX, rfl⟩
  have hx : X.cell? ⟨w.heap.size, 0, none⟩ = some (.int .i64 0) := (hX.cell (p := ⟨w.heap.size, 0, none⟩) hz).trans HC.out
  have hn : (X.setCell ⟨w.heap.size, 0, none⟩ (.int .i64 n)).cell? ⟨w.heap.size, 0, none⟩ = some (.int .i64 n) := by simp [go_sem, hx]
  have B : Below w.heap.size w (X.setCell ⟨w.heap.size, 0, none⟩ (.int .i64 n)) := (hb.trans (hX.mono hb.size)).setCell (p := ⟨w.heap.size, 0, none⟩) (Nat.le_refl _) _
  generalize X.setCell ⟨w.heap.size, 0, none⟩ (.int .i64 n) = W2 at *
  go_wp2_with fail
  go_ret
  exact ⟨rfl, B⟩

theorem error_nil (m : Int) (w : World) : Calls Tryd.prog 10 #[.nilIface, .int .i64 m] w fun e w' => e = .returned (.bool ((0 : Int) == m)) ∧ w = w' := by
  go_enter Tryd.func10, Tryd.ntmps10
  go_wp2_with fail
  refine (told_nil w).mono ?_
  rintro e w' ⟨rfl, rfl⟩
  go_wp2_with fail
  go_ret
  exact ⟨rfl, rfl⟩
theorem error_err (n m : Int) (w : World) (hg : Handle w) : Calls Tryd.prog 10 #[errv n, .int .i64 m] w fun e w' => e = .returned (.bool (n == m)) ∧ Below w.heap.size w w' := by
  have H := Lib.hid hg
  clear hg
  unfold errv
  go_enter Tryd.func10, Tryd.ntmps10
  go_wp2_with fail
  refine (told_err n w H.out).mono ?_
  rintro e w' ⟨rfl, hb⟩
  go_wp2_with fail
  go_ret
  exact ⟨rfl, hb⟩
end Go.Proofs.YtkjchddidpjjmaaDoor
/- Errors by number, told alike: what the statements compare. Conditions: Handle, where an error is looked at. -/
namespace Go.Proofs.YtkjchddidpjjmaaDoor
open Go.RowKit
theorem err_same (q : Int) (w : World) (hg : Handle w) : Calls Tryd.prog 10 #[erv q, .int .i64 q] w fun e w' => e = .returned (.bool true) ∧ Below w.heap.size w w' := by
  by_cases h : q = 0
  · subst h
    rw [erv_zero]
    exact (error_nil 0 w).mono fun _ _ ⟨he, hw⟩ => ⟨he, by rw [← hw]; exact Below.refl _ _⟩
  · rw [erv_ne h]
    exact (error_err q q w hg).mono fun _ _ ⟨he, hb⟩ => ⟨by rw [he]; simp, hb⟩
end Go.Proofs.YtkjchddidpjjmaaDoor
/- The contracts of slices.Concat at three slices of bytes, and of seg.over. Conditions: as each theorem states them. -/
namespace Go.Proofs.YtkjchddidpjjmaaDoor
open Go.RowKit

set_option maxRecDepth 100000 in
set_option maxHeartbeats 2000000 in
theorem concat3 (g : Nat) (a1 : Option Addr) (n1 c1 : Nat) (x1 : List Int) (a2 : Option Addr) (n2 c2 : Nat) (x2 : List Int) (a3 : Option Addr) (n3 c3 : Nat) (x3 : List Int) (w : World) (K : Blk w g 40 #[.slice a1 n1 c1, .slice a2 n2 c2, .slice a3 n3 c3])
    (h1 : Ints .u8 w a1 n1 x1) (h2 : Ints .u8 w a2 n2 x2) (h3 : Ints .u8 w a3 n3 x3) (hn : n1 + n2 + n3 ≤ 10000) :
    Calls Tryd.prog 61 #[.slice (some ⟨g, 0, none⟩) 3 3] w fun e w' => ∃ v, e = .returned v ∧ Own w' w.heap.size v (x1 ++ x2 ++ x3) ∧ Ext w w' := by
  have H1 := Lib.hid h1
  have H2 := Lib.hid h2
  have H3 := Lib.hid h3
  have HK := Lib.hid K
  have k0 : w.cell? ⟨g, 0, none⟩ = some (.slice a1 n1 c1) := K.cells 0
  have k1 : w.cell? ⟨g, 1, none⟩ = some (.slice a2 n2 c2) := K.cells 1
  have k2 : w.cell? ⟨g, 2, none⟩ = some (.slice a3 n3 c3) := K.cells 2
  have HC := Lib.hid (show (n1 : Int) + (n2 : Int) = ((n1 + n2 : Nat) : Int) by omega)
  have hz1 : ¬ (n1 : Int) < 0 := by omega
  obtain ⟨m2, hm2⟩ : ∃ m, m = n1 + n2 := ⟨_, rfl⟩
  obtain ⟨m3, hm3⟩ : ∃ m, m = n1 + n2 + n3 := ⟨_, rfl⟩
  have HM2 := Lib.hid hm2
  have HM3 := Lib.hid hm3
  have b2 : m2 ≤ 10000 := by omega
  have b3 : m3 ≤ 10000 := by omega
  clear h1 h2 h3 K hm2 hm3
  go_enter Tryd.func61, Tryd.ntmps61
  go_wp2_with fail
  go_loopw [3, 11] (fun s k wr => w = wr ∧ ((k = .int .i64 0 ∧ s = .int .i64 0) ∨ (k = .int .i64 1 ∧ s = .int .i64 n1) ∨ (k = .int .i64 2 ∧ s = .int .i64 (m2 : Int)) ∨ (k = .int .i64 3 ∧ s = .int .i64 (m3 : Int)))) (fun _ k _ => 3 - (intOf k).toNat)
  case atStart => exact ⟨rfl, .inl ⟨rfl, rfl⟩⟩
  case round =>
    obtain ⟨rfl, ⟨rfl, rfl⟩ | ⟨rfl, rfl⟩ | ⟨rfl, rfl⟩ | ⟨rfl, rfl⟩⟩ := hrel
    · go_wp2_with fail
      go_roundw
      case rel => exact ⟨trivial, .inr (.inl ⟨rfl, rfl⟩)⟩
      case measure => simp [intOf]
    · have hz2 : ¬ (n1 : Int) + (n2 : Int) < 0 := by omega
      have ew : IntKind.i64.wrap ((n1 : Int) + (n2 : Int)) = (n1 : Int) + (n2 : Int) := IntWalk.i64_in _ (by omega)
      go_wp2_with fail
      go_roundw
      case rel => exact ⟨trivial, .inr (.inr (.inl ⟨rfl, val_int (by have := HM2.out; omega)⟩))⟩
      case measure => simp [intOf]
    · have hz2 : ¬ (m2 : Int) + (n3 : Int) < 0 := by omega
      have ew : IntKind.i64.wrap ((m2 : Int) + (n3 : Int)) = (m2 : Int) + (n3 : Int) := IntWalk.i64_in _ (by omega)
      go_wp2_with fail
      go_roundw
      case rel => exact ⟨trivial, .inr (.inr (.inr ⟨rfl, val_int (by have := HM2.out; have := HM3.out; omega)⟩))⟩
      case measure => simp [intOf]
    · go_wp2_with fail
      refine (grow_nil m3 w (by omega)).mono ?_
      rintro e W1 ⟨v, rfl, o1, q1⟩
      clear k0 k1 k2
      go_wp2_with fail
      go_loopw [6, 27] (fun v k wr => ∃ ys, Own wr w.heap.size v ys ∧ Ext w wr ∧ ((k = .int .i64 0 ∧ ys = []) ∨ (k = .int .i64 1 ∧ ys = x1) ∨ (k = .int .i64 2 ∧ ys = x1 ++ x2) ∨ (k = .int .i64 3 ∧ ys = x1 ++ x2 ++ x3))) (fun _ k _ => 3 - (intOf k).toNat)
      case atStart => exact ⟨[], o1, q1, .inl ⟨rfl, rfl⟩⟩
      case round =>
        obtain ⟨ys, oy, qy, hk⟩ := hrel
        have KW := HK.out.ext qy
        have j0 : wr.cell? ⟨g, 0, none⟩ = some (.slice a1 n1 c1) := KW.cells 0
        have j1 : wr.cell? ⟨g, 1, none⟩ = some (.slice a2 n2 c2) := KW.cells 1
        have j2 : wr.cell? ⟨g, 2, none⟩ = some (.slice a3 n3 c3) := KW.cells 2
        clear KW
        rcases hk with ⟨rfl, rfl⟩ | ⟨rfl, rfl⟩ | ⟨rfl, rfl⟩ | ⟨rfl, rfl⟩
        · go_wp2_with (at_builtin; refine Halt.out ?_)
          refine Halt.mk ?_
          refine app rfl _ _ rfl w.heap.size _ [] rfl oy _ n1 c1 x1 rfl (H1.out.ext qy) (by simp; omega) qy.size ?_
          intro v' w' o' b'
          clear j0 j1 j2
          go_wp2_with fail
          go_roundw
          case rel => exact ⟨x1, o', Below.trans qy b', .inr (.inl ⟨rfl, rfl⟩)⟩
          case measure => simp [intOf]
        · go_wp2_with (at_builtin; refine Halt.out ?_)
          refine Halt.mk ?_
          refine app rfl _ _ rfl w.heap.size _ _ rfl oy _ n2 c2 x2 rfl (H2.out.ext qy) (by rw [H1.out.len]; omega) qy.size ?_
          intro v' w' o' b'
          clear j0 j1 j2
          go_wp2_with fail
          go_roundw
          case rel => exact ⟨_, o', Below.trans qy b', .inr (.inr (.inl ⟨rfl, rfl⟩))⟩
          case measure => simp [intOf]
        · go_wp2_with (at_builtin; refine Halt.out ?_)
          refine Halt.mk ?_
          refine app rfl _ _ rfl w.heap.size _ _ rfl oy _ n3 c3 x3 rfl (H3.out.ext qy) (by rw [List.length_append, H1.out.len, H2.out.len]; omega) qy.size ?_
          intro v' w' o' b'
          clear j0 j1 j2
          go_wp2_with fail
          go_roundw
          case rel => exact ⟨_, o', Below.trans qy b', .inr (.inr (.inr ⟨rfl, rfl⟩))⟩
          case measure => simp [intOf]
        · clear j0 j1 j2
          go_wp2_with fail
          go_ret
          exact ⟨_, rfl, oy, qy⟩

set_option maxRecDepth 100000 in
set_option maxHeartbeats 2000000 in
theorem over_any (a1 : Option Addr) (n1 c1 : Nat) (x1 : List Int) (a2 : Option Addr) (n2 c2 : Nat) (x2 : List Int) (k n : Int) (w : World) (h1 : Ints .u8 w a1 n1 x1) (h2 : Ints .u8 w a2 n2 x2) (b1 : Pl.IsB x1) (b2 : Pl.IsB x2) (hn : n1 + n2 ≤ 100) :
    Calls Tryd.prog 87 #[.slice a1 n1 c1, .slice a2 n2 c2, .int .i64 k, .int .i64 n] w fun e w' =>
      e = .returned (.tuple #[.int .i64 (bO (okO k n) (Pl.fold (Pl.raw 0 (x1 ++ x2 ++ Pl.two [k, n])))), erv (eO (okO k n))]) ∧ Ext w w' := by
  have H1 := Lib.hid h1
  have H2 := Lib.hid h2
  have HB1 := Lib.hid b1
  have HB2 := Lib.hid b2
  clear h1 h2 b1 b2
  by_cases hk : 0 ≤ k ∧ k ≤ 255
  case neg =>
    have ho : okO k n = false := by
      cases h : w8 k
      · unfold okO; rw [h]; rfl
      · exact absurd (w8_yes h) hk
    rw [ho]
    clear ho
    by_cases hk0 : k < 0
    · clear hk
      go_enter Tryd.func87, Tryd.ntmps87
      go_wp2_with fail
      go_ret2
      exact ⟨rfl, Ext.refl _⟩
    · have hk1 : 255 < k := by omega
      clear hk
      go_enter Tryd.func87, Tryd.ntmps87
      go_wp2_with fail
      go_ret2
      exact ⟨rfl, Ext.refl _⟩
  obtain ⟨k0, k1⟩ := hk
  have hw8 : w8 k = true := by unfold w8; simp [k0, k1]
  by_cases g0 : 0 ≤ n
  case neg =>
    have ho : okO k n = false := by unfold okO; simp [g0]
    rw [ho]
    clear ho hw8
    go_enter Tryd.func87, Tryd.ntmps87
    go_wp2_with fail
    go_ret2
    exact ⟨rfl, Ext.refl _⟩
  by_cases g1 : n ≤ 320
  case neg =>
    have ho : okO k n = false := by unfold okO; simp [g1]
    rw [ho]
    clear ho hw8
    go_enter Tryd.func87, Tryd.ntmps87
    go_wp2_with fail
    go_ret2
    exact ⟨rfl, Ext.refl _⟩
  have ho : okO k n = true := by unfold okO; rw [hw8]; simp [g0, g1]
  rw [ho]
  have htwo : Pl.two [k, n] = [0, k, n / 256, n % 256] := by
    simp [Pl.two]
    omega
  rw [htwo]
  have e1 : IntKind.u8.wrap k = k := IntWalk.u8_in _ (by omega)
  have e2 : IntKind.u8.wrap (n / 256) = n / 256 := IntWalk.u8_in _ (by omega)
  have e3 : IntKind.u8.wrap n = n % 256 := by rw [IntKind.wrap_u8]
  clear ho hw8 htwo
  go_enter Tryd.func87, Tryd.ntmps87
  go_wp2_with fail
  refine (concat3 (w.heap.size + 1) a1 n1 c1 x1 a2 n2 c2 x2 (some ⟨w.heap.size, 0, none⟩) 4 4 [0, k, n / 256, n % 256] _ (Blk.at _ _ _ (by simp)) (H1.out.ext (((Ext.refl w).alloc _).alloc _)) (H2.out.ext (((Ext.refl w).alloc _).alloc _)) ((ints_new w _ _ _ _ _ rfl).ext ((Ext.refl _).alloc _)) (by omega)).mono ?_
  rintro e W1 ⟨v, rfl, o1, q1⟩
  have E1 : Ext w W1 := (((Ext.refl w).alloc _).alloc _).trans q1
  obtain ⟨a3, n3, c3, rfl, _, r3⟩ := o1.read
  have hn3 : n3 ≤ 65536 := by rw [← r3.len, List.length_append, List.length_append, H1.out.len, H2.out.len]; simp; omega
  clear o1 q1
  go_wp2_with fail
  refine (raw_any a3 n3 c3 _ W1 r3 ((HB1.out.append HB2.out).append (fun x hx => by simp only [List.mem_cons, List.not_mem_nil, or_false] at hx; rcases hx with rfl | rfl | rfl | rfl <;> omega)) hn3).mono ?_
  rintro e w' ⟨rfl, rfl⟩
  go_wp2_with fail
  go_ret2
  refine ⟨?_, E1⟩
  rw [List.append_assoc]
  rfl
end Go.Proofs.YtkjchddidpjjmaaDoor
/- The contracts of seg.Over4, seg.Over6 and of the document's answers to them. Conditions: as each theorem states them. -/
namespace Go.Proofs.YtkjchddidpjjmaaDoor
open Go.RowKit
def ok4 (s d k n : Int) : Bool := w32 s && w32 d && okO k n
def val4 (s d k n : Int) : Int := Pl.fold (Pl.raw 0 (Pl.four s ++ Pl.four d ++ Pl.two [k, n]))

set_option maxRecDepth 100000 in
set_option maxHeartbeats 1000000 in
theorem over4_any (s d k n : Int) (w : World) :
    Calls Tryd.prog 99 #[.int .i64 s, .int .i64 d, .int .i64 k, .int .i64 n] w fun e w' => e = .returned (.tuple #[.int .i64 (bO (ok4 s d k n) (val4 s d k n)), erv (eO (ok4 s d k n))]) ∧ Ext w w' := by
  cases hs : w32 s
  case false =>
    have ho : ok4 s d k n = false := by unfold ok4; rw [hs]; rfl
    rw [ho]
    have HS := Lib.hid hs
    clear ho hs
    go_enter Tryd.func99, Tryd.ntmps99
    go_wp2_with fail
    refine (is_any s w).mono ?_
    rintro e w' ⟨rfl, rfl⟩
    rw [HS.out]
    go_wp2_with fail
    go_ret2
    exact ⟨rfl, Ext.refl _⟩
  cases hd : w32 d
  case false =>
    have ho : ok4 s d k n = false := by unfold ok4; rw [hs, hd]; rfl
    rw [ho]
    have HS := Lib.hid hs
    have HD := Lib.hid hd
    clear ho hs hd
    go_enter Tryd.func99, Tryd.ntmps99
    go_wp2_with fail
    refine (is_any s w).mono ?_
    rintro e w' ⟨rfl, rfl⟩
    rw [HS.out]
    go_wp2_with fail
    refine (is_any d w).mono ?_
    rintro e w' ⟨rfl, rfl⟩
    rw [HD.out]
    go_wp2_with fail
    go_ret2
    exact ⟨rfl, Ext.refl _⟩
  have ho : ok4 s d k n = okO k n := by unfold ok4; rw [hs, hd]; rfl
  rw [ho]
  obtain ⟨s0, s1⟩ := w32_yes hs
  obtain ⟨d0, d1⟩ := w32_yes hd
  have HS := Lib.hid hs
  have HD := Lib.hid hd
  clear ho hs hd
  go_enter Tryd.func99, Tryd.ntmps99
  go_wp2_with fail
  refine (is_any s w).mono ?_
  rintro e w' ⟨rfl, rfl⟩
  rw [HS.out]
  go_wp2_with fail
  refine (is_any d w).mono ?_
  rintro e w' ⟨rfl, rfl⟩
  rw [HD.out]
  go_wp2_with fail
  refine (raw4_any s w s0 s1).mono ?_
  rintro e W1 ⟨v1, rfl, o1, q1⟩
  obtain ⟨a1, n1, c1, rfl, _, r1⟩ := o1.read
  have h1 : 4 = n1 := r1.len
  go_wp2_with fail
  refine (raw4_any d W1 d0 d1).mono ?_
  rintro e W2 ⟨v2, rfl, o2, q2⟩
  obtain ⟨a2, n2, c2, rfl, _, r2⟩ := o2.read
  have h2 : 4 = n2 := r2.len
  have E2 : Ext w W2 := Ext.trans q1 q2
  go_wp2_with fail
  refine (over_any a1 n1 c1 (Pl.four s) a2 n2 c2 (Pl.four d) k n W2 (r1.ext q2) r2 (Pl.four_isB s0 s1) (Pl.four_isB d0 d1) (by omega)).mono ?_
  rintro e W3 ⟨rfl, q3⟩
  have hv : Pl.fold (Pl.raw 0 (Pl.four s ++ Pl.four d ++ Pl.two [k, n])) = val4 s d k n := rfl
  rw [hv]
  go_wp2_with fail
  go_ret2
  exact ⟨rfl, E2.trans q3⟩

set_option maxRecDepth 100000 in
set_option maxHeartbeats 1000000 in
theorem rover4_any (s d k n : Int) (w : World) :
    Calls Tryd.prog 96 #[.int .i64 s, .int .i64 d, .int .i64 k, .int .i64 n] w fun e w' => e = .returned (.tuple #[.int .i64 (bO (ok4 s d k n) (val4 s d k n)), .int .i64 (eO (ok4 s d k n))]) ∧ Ext w w' := by
  cases hs : w32 s
  case false =>
    have ho : ok4 s d k n = false := by unfold ok4; rw [hs]; rfl
    rw [ho]
    have HS := Lib.hid hs
    clear ho hs
    go_enter Tryd.func96, Tryd.ntmps96
    go_wp2_with fail
    refine (isFour_any s w).mono ?_
    rintro e w' ⟨rfl, rfl⟩
    rw [HS.out]
    go_wp2_with fail
    refine (isFour_any d w).mono ?_
    rintro e w' ⟨rfl, rfl⟩
    go_wp2_with fail
    go_ret2
    exact ⟨rfl, Ext.refl _⟩
  cases hd : w32 d
  case false =>
    have ho : ok4 s d k n = false := by unfold ok4; rw [hs, hd]; rfl
    rw [ho]
    have HS := Lib.hid hs
    have HD := Lib.hid hd
    clear ho hs hd
    go_enter Tryd.func96, Tryd.ntmps96
    go_wp2_with fail
    refine (isFour_any s w).mono ?_
    rintro e w' ⟨rfl, rfl⟩
    rw [HS.out]
    go_wp2_with fail
    refine (isFour_any d w).mono ?_
    rintro e w' ⟨rfl, rfl⟩
    rw [HD.out]
    go_wp2_with fail
    go_ret2
    exact ⟨rfl, Ext.refl _⟩
  have ho : ok4 s d k n = okO k n := by unfold ok4; rw [hs, hd]; rfl
  rw [ho]
  obtain ⟨s0, s1⟩ := w32_yes hs
  obtain ⟨d0, d1⟩ := w32_yes hd
  have HS := Lib.hid hs
  have HD := Lib.hid hd
  clear ho hs hd
  go_enter Tryd.func96, Tryd.ntmps96
  go_wp2_with fail
  refine (isFour_any s w).mono ?_
  rintro e w' ⟨rfl, rfl⟩
  rw [HS.out]
  go_wp2_with fail
  refine (isFour_any d w).mono ?_
  rintro e w' ⟨rfl, rfl⟩
  rw [HD.out]
  go_wp2_with fail
  refine (fourBytes_any s w s0 s1).mono ?_
  rintro e W1 ⟨v1, rfl, o1, q1⟩
  obtain ⟨a1, n1, c1, rfl, _, r1⟩ := o1.read
  have h1 : 4 = n1 := r1.len
  go_wp2_with fail
  refine (fourBytes_any d W1 d0 d1).mono ?_
  rintro e W2 ⟨v2, rfl, o2, q2⟩
  obtain ⟨a2, n2, c2, rfl, _, r2⟩ := o2.read
  have h2 : 4 = n2 := r2.len
  have E2 : Ext w W2 := q1.trans q2
  go_wp2_with fail
  refine (overOf_any a1 n1 c1 (Pl.four s) a2 n2 c2 (Pl.four d) k n W2 (r1.ext q2) r2 (Pl.four_isB s0 s1) (Pl.four_isB d0 d1) (by omega)).mono ?_
  rintro e W3 ⟨rfl, q3⟩
  have hv : Pl.fold (Pl.raw 0 (Pl.four s ++ Pl.four d ++ Pl.two [k, n])) = val4 s d k n := rfl
  rw [hv]
  go_wp2_with fail
  go_ret2
  exact ⟨rfl, E2.trans q3⟩
end Go.Proofs.YtkjchddidpjjmaaDoor
/- The contracts of seg.Over6 and of the document's answer to it. Conditions: as each theorem states them. -/
namespace Go.Proofs.YtkjchddidpjjmaaDoor
open Go.RowKit
def ok6 (s d : Six) (k n : Int) : Bool := okS s && okS d && okO k n
def val6 (s d : Six) (k n : Int) : Int := Pl.fold (Pl.raw 0 (Pl.two s.l ++ Pl.two d.l ++ Pl.two [k, n]))
theorem bytesOf_x (s : Six) (w : World) (h : okS s = true) : Calls Tryd.prog 46 #[.agg #[.int .i64 s.x0, .int .i64 s.x1, .int .i64 s.x2, .int .i64 s.x3, .int .i64 s.x4, .int .i64 s.x5, .int .i64 s.x6, .int .i64 s.x7]] w fun e w' => ∃ v, e = .returned v ∧ Own w' w.heap.size v (Pl.two s.l) ∧ Ext w w' := bytesOf_any s w h
set_option maxRecDepth 100000 in
set_option maxHeartbeats 2000000 in
theorem over6_any (s d : Six) (k n : Int) (w : World) :
    Calls Tryd.prog 43 #[s.v, d.v, .int .i64 k, .int .i64 n] w fun e w' => e = .returned (.tuple #[.int .i64 (bO (ok6 s d k n) (val6 s d k n)), erv (eO (ok6 s d k n))]) ∧ Ext w w' := by
  have KS := (Blk.new w 23 s.cells).alloc (.cells d.cells 23)
  have KD := Blk.new (w.alloc (.cells s.cells 23)) 23 d.cells
  simp only [World.size_alloc] at KD
  have E0 := ((Ext.refl w).alloc (.cells s.cells 23)).alloc (.cells d.cells 23)
  have ls := KS.six0
  unfold Six.v
  cases hs : okS s
  case false =>
    have ho : ok6 s d k n = false := by unfold ok6; rw [hs]; rfl
    rw [ho]
    have HS := Lib.hid hs
    clear ho hs
    go_enter Tryd.func43, Tryd.ntmps43
    go_wp2_with ((apply load_by rfl _ _ rfl _ rfl); (focus (with_reducible assumption)))
    refine (check6_no s _ HS.out).mono ?_
    rintro e W1 ⟨rfl, q1⟩
    unfold errv
    go_wp2_with fail
    go_ret2
    exact ⟨rfl, E0.trans q1⟩
  cases hd : okS d
  case false =>
    have ho : ok6 s d k n = false := by unfold ok6; rw [hs, hd]; rfl
    rw [ho]
    have HS := Lib.hid hs
    have HD := Lib.hid hd
    clear ho hs hd
    go_enter Tryd.func43, Tryd.ntmps43
    go_wp2_with ((apply load_by rfl _ _ rfl _ rfl); (focus (with_reducible assumption)))
    refine (check6_yes s _ HS.out).mono ?_
    rintro e W1 ⟨rfl, q1⟩
    have ld := (KD.ext q1).six0
    clear ls
    go_wp2_with ((apply load_by rfl _ _ rfl _ rfl); (focus (with_reducible assumption)))
    refine (check6_no d _ HD.out).mono ?_
    rintro e W2 ⟨rfl, q2⟩
    unfold errv
    go_wp2_with fail
    go_ret2
    exact ⟨rfl, (E0.trans q1).trans q2⟩
  have ho : ok6 s d k n = okO k n := by unfold ok6; rw [hs, hd]; rfl
  rw [ho]
  have HS := Lib.hid hs
  have HD := Lib.hid hd
  clear ho hs hd
  go_enter Tryd.func43, Tryd.ntmps43
  go_wp2_with ((apply load_by rfl _ _ rfl _ rfl); (focus (with_reducible assumption)))
  refine (check6_yes s _ HS.out).mono ?_
  rintro e W1 ⟨rfl, q1⟩
  have ld := (KD.ext q1).six0
  clear ls
  go_wp2_with ((apply load_by rfl _ _ rfl _ rfl); (focus (with_reducible assumption)))
  refine (check6_yes d _ HD.out).mono ?_
  rintro e W2 ⟨rfl, q2⟩
  have E2 := (E0.trans q1).trans q2
  have KS2 := (KS.ext q1).ext q2
  have KD2 := (KD.ext q1).ext q2
  clear ld E0 q1 q2 KS KD
  go_upto_region 3 with (fail)
  have fS := KS2.cells
  have fD := KD2.cells
  unfold Six.cells at fS fD
  have hlen : (Pl.two s.l).length = 16 := by rw [Pl.two_length]; rfl
  have hlen2 : (Pl.two d.l).length = 16 := by rw [Pl.two_length]; rfl
  have HL := Lib.hid hlen
  have HL2 := Lib.hid hlen2
  clear hlen hlen2
  go_region_law (first
    | (go_simp; go_at_call 50; (have h3 := E3; clear h3); (with_reducible refine (raw6_x s _ HS.out).mono ?_); rintro e W4 ⟨v4, rfl, o4, q4⟩; obtain ⟨a4, n4, c4, rfl, l4, r4⟩ := o4.read; have E4 : Ext W2 W4 := (by first | exact Ext.trans E3 q4 | exact Ext.trans (Ext.drew E3) q4); have rs : Ints .u8 W4 a4 n4 (Pl.two s.l) := r4; have rd : Ints .u8 W4 a3 n3 (Pl.two d.l) := r3.ext (by first | exact q4 | exact Ext.trans (Ext.drew (Ext.refl _)) q4); have fS4 := (KS2.ext E4).cells; have fD4 := (KD2.ext E4).cells; unfold Six.cells at fS4 fD4)
    | (go_simp; go_at_call 50; (have h3 := E3; clear h3); (with_reducible refine (raw6_x d _ HD.out).mono ?_); rintro e W4 ⟨v4, rfl, o4, q4⟩; obtain ⟨a4, n4, c4, rfl, l4, r4⟩ := o4.read; have E4 : Ext W2 W4 := (by first | exact Ext.trans E3 q4 | exact Ext.trans (Ext.drew E3) q4); have rd : Ints .u8 W4 a4 n4 (Pl.two d.l) := r4; have rs : Ints .u8 W4 a3 n3 (Pl.two s.l) := r3.ext (by first | exact q4 | exact Ext.trans (Ext.drew (Ext.refl _)) q4); have fS4 := (KS2.ext E4).cells; have fD4 := (KD2.ext E4).cells; unfold Six.cells at fS4 fD4)
    | (go_simp; go_at_call 50; (with_reducible refine (raw6_x s _ HS.out).mono ?_); rintro e W3 ⟨v3, rfl, o3, q3⟩; obtain ⟨a3, n3, c3, rfl, l3, r3⟩ := o3.read; have E3 : Ext W2 W3 := (by first | exact q3 | exact Ext.trans (Ext.drew (Ext.refl _)) q3); have fS3 := (KS2.ext E3).cells; have fD3 := (KD2.ext E3).cells; unfold Six.cells at fS3 fD3)
    | (go_simp; go_at_call 50; (with_reducible refine (raw6_x d _ HD.out).mono ?_); rintro e W3 ⟨v3, rfl, o3, q3⟩; obtain ⟨a3, n3, c3, rfl, l3, r3⟩ := o3.read; have E3 : Ext W2 W3 := (by first | exact q3 | exact Ext.trans (Ext.drew (Ext.refl _)) q3); have fS3 := (KS2.ext E3).cells; have fD3 := (KD2.ext E3).cells; unfold Six.cells at fS3 fD3)
    | (go_simp; go_at_call 87; refine (over_any _ _ _ (Pl.two s.l) _ _ _ (Pl.two d.l) k n _ (by first | exact rs | exact rs.ext (Ext.drew (Ext.refl _))) (by first | exact rd | exact rd.ext (Ext.drew (Ext.refl _))) (Six.isB HS.out) (Six.isB HD.out) (by have h1 := rs.len; have h2 := rd.len; have h3 := HL.out; have h4 := HL2.out; omega)).mono ?_; rintro e W5 ⟨rfl, q5⟩; have E5 : Ext w W5 := E2.trans (by first | exact Ext.trans E4 q5 | exact Ext.trans (Ext.drew E4) q5)))
  all_goals
    clear fS fD fS3 fD3 fS4 fD4
    go_wp2_with fail
    go_ret2
    refine ⟨?_, E5⟩
    unfold val6
    rw [List.append_assoc]
    rfl
theorem sixf_no (s : Six) (w : World) (h : okS s = false) : Calls Tryd.prog 15 #[s.v] w fun e w' => e = .returned (.int .i64 1) ∧ Ext w w' :=
  (sixFault_any s w).mono fun _ _ ⟨he, hx⟩ => ⟨by rw [he]; unfold sixE; unfold okS at h; rw [h]; rfl, hx⟩
theorem sixf_yes (s : Six) (w : World) (h : okS s = true) : Calls Tryd.prog 15 #[s.v] w fun e w' => e = .returned (.int .i64 0) ∧ Ext w w' :=
  (sixFault_any s w).mono fun _ _ ⟨he, hx⟩ => ⟨by rw [he]; unfold sixE; unfold okS at h; rw [h]; rfl, hx⟩

set_option maxRecDepth 100000 in
set_option maxHeartbeats 2000000 in
theorem rover6_any (s d : Six) (k n : Int) (w : World) :
    Calls Tryd.prog 95 #[s.v, d.v, .int .i64 k, .int .i64 n] w fun e w' => e = .returned (.tuple #[.int .i64 (bO (ok6 s d k n) (val6 s d k n)), Value.int .i64 (eO (ok6 s d k n))]) ∧ Ext w w' := by
  have KS := (Blk.new w 23 s.cells).alloc (.cells d.cells 23)
  have KD := Blk.new (w.alloc (.cells s.cells 23)) 23 d.cells
  simp only [World.size_alloc] at KD
  have E0 := ((Ext.refl w).alloc (.cells s.cells 23)).alloc (.cells d.cells 23)
  have ls := KS.six0
  unfold Six.v
  cases hs : okS s
  case false =>
    have ho : ok6 s d k n = false := by unfold ok6; rw [hs]; rfl
    rw [ho]
    have HS := Lib.hid hs
    clear ho hs
    go_enter Tryd.func95, Tryd.ntmps95
    go_wp2_with ((apply load_by rfl _ _ rfl _ rfl); (focus (with_reducible assumption)))
    refine (sixf_no s _ HS.out).mono ?_
    rintro e W1 ⟨rfl, q1⟩
    go_wp2_with fail
    go_ret2
    exact ⟨rfl, E0.trans q1⟩
  cases hd : okS d
  case false =>
    have ho : ok6 s d k n = false := by unfold ok6; rw [hs, hd]; rfl
    rw [ho]
    have HS := Lib.hid hs
    have HD := Lib.hid hd
    clear ho hs hd
    go_enter Tryd.func95, Tryd.ntmps95
    go_wp2_with ((apply load_by rfl _ _ rfl _ rfl); (focus (with_reducible assumption)))
    refine (sixf_yes s _ HS.out).mono ?_
    rintro e W1 ⟨rfl, q1⟩
    have ld := (KD.ext q1).six0
    clear ls
    go_wp2_with ((apply load_by rfl _ _ rfl _ rfl); (focus (with_reducible assumption)))
    refine (sixf_no d _ HD.out).mono ?_
    rintro e W2 ⟨rfl, q2⟩
    go_wp2_with fail
    go_ret2
    exact ⟨rfl, (E0.trans q1).trans q2⟩
  have ho : ok6 s d k n = okO k n := by unfold ok6; rw [hs, hd]; rfl
  rw [ho]
  have HS := Lib.hid hs
  have HD := Lib.hid hd
  clear ho hs hd
  go_enter Tryd.func95, Tryd.ntmps95
  go_wp2_with ((apply load_by rfl _ _ rfl _ rfl); (focus (with_reducible assumption)))
  refine (sixf_yes s _ HS.out).mono ?_
  rintro e W1 ⟨rfl, q1⟩
  have ld := (KD.ext q1).six0
  clear ls
  go_wp2_with ((apply load_by rfl _ _ rfl _ rfl); (focus (with_reducible assumption)))
  refine (sixf_yes d _ HD.out).mono ?_
  rintro e W2 ⟨rfl, q2⟩
  have E2 := (E0.trans q1).trans q2
  have KS2 := (KS.ext q1).ext q2
  have KD2 := (KD.ext q1).ext q2
  clear ld E0 q1 q2 KS KD
  go_upto_region 3 with (fail)
  have fS := KS2.cells
  have fD := KD2.cells
  unfold Six.cells at fS fD
  have hlen : (Pl.two s.l).length = 16 := by rw [Pl.two_length]; rfl
  have hlen2 : (Pl.two d.l).length = 16 := by rw [Pl.two_length]; rfl
  have HL := Lib.hid hlen
  have HL2 := Lib.hid hlen2
  clear hlen hlen2
  go_region_law (first
    | (go_simp; go_at_call 46; (have h3 := E3; clear h3); (with_reducible refine (bytesOf_x s _ HS.out).mono ?_); rintro e W4 ⟨v4, rfl, o4, q4⟩; obtain ⟨a4, n4, c4, rfl, l4, r4⟩ := o4.read; have E4 : Ext W2 W4 := (by first | exact Ext.trans E3 q4 | exact Ext.trans (Ext.drew E3) q4); have rs : Ints .u8 W4 a4 n4 (Pl.two s.l) := r4; have rd : Ints .u8 W4 a3 n3 (Pl.two d.l) := r3.ext (by first | exact q4 | exact Ext.trans (Ext.drew (Ext.refl _)) q4); have fS4 := (KS2.ext E4).cells; have fD4 := (KD2.ext E4).cells; unfold Six.cells at fS4 fD4)
    | (go_simp; go_at_call 46; (have h3 := E3; clear h3); (with_reducible refine (bytesOf_x d _ HD.out).mono ?_); rintro e W4 ⟨v4, rfl, o4, q4⟩; obtain ⟨a4, n4, c4, rfl, l4, r4⟩ := o4.read; have E4 : Ext W2 W4 := (by first | exact Ext.trans E3 q4 | exact Ext.trans (Ext.drew E3) q4); have rd : Ints .u8 W4 a4 n4 (Pl.two d.l) := r4; have rs : Ints .u8 W4 a3 n3 (Pl.two s.l) := r3.ext (by first | exact q4 | exact Ext.trans (Ext.drew (Ext.refl _)) q4); have fS4 := (KS2.ext E4).cells; have fD4 := (KD2.ext E4).cells; unfold Six.cells at fS4 fD4)
    | (go_simp; go_at_call 46; (with_reducible refine (bytesOf_x s _ HS.out).mono ?_); rintro e W3 ⟨v3, rfl, o3, q3⟩; obtain ⟨a3, n3, c3, rfl, l3, r3⟩ := o3.read; have E3 : Ext W2 W3 := (by first | exact q3 | exact Ext.trans (Ext.drew (Ext.refl _)) q3); have fS3 := (KS2.ext E3).cells; have fD3 := (KD2.ext E3).cells; unfold Six.cells at fS3 fD3)
    | (go_simp; go_at_call 46; (with_reducible refine (bytesOf_x d _ HD.out).mono ?_); rintro e W3 ⟨v3, rfl, o3, q3⟩; obtain ⟨a3, n3, c3, rfl, l3, r3⟩ := o3.read; have E3 : Ext W2 W3 := (by first | exact q3 | exact Ext.trans (Ext.drew (Ext.refl _)) q3); have fS3 := (KS2.ext E3).cells; have fD3 := (KD2.ext E3).cells; unfold Six.cells at fS3 fD3)
    | (go_simp; go_at_call 104; refine (overOf_any _ _ _ (Pl.two s.l) _ _ _ (Pl.two d.l) k n _ (by first | exact rs | exact rs.ext (Ext.drew (Ext.refl _))) (by first | exact rd | exact rd.ext (Ext.drew (Ext.refl _))) (Six.isB HS.out) (Six.isB HD.out) (by have h1 := rs.len; have h2 := rd.len; have h3 := HL.out; have h4 := HL2.out; omega)).mono ?_; rintro e W5 ⟨rfl, q5⟩; have E5 : Ext w W5 := E2.trans (by first | exact Ext.trans E4 q5 | exact Ext.trans (Ext.drew E4) q5)))
  all_goals
    clear fS fD fS3 fD3 fS4 fD4
    go_wp2_with fail
    go_ret2
    refine ⟨?_, E5⟩
    unfold val6
    rw [List.append_assoc]
    rfl
end Go.Proofs.YtkjchddidpjjmaaDoor
/- The document's answers on packets of sixes: Fault6, Encoded6, word. Conditions: as each theorem states them. -/
namespace Go.Proofs.YtkjchddidpjjmaaDoor
open Go.RowKit

set_option maxRecDepth 100000 in
set_option maxHeartbeats 2000000 in
theorem rfault6_any (p : P6) (a : Option Addr) (n c : Nat) (w : World) :
    Calls Tryd.prog 75 #[p.v (.slice a n c)] w fun e w' => e = .returned (.int .i64 (p.fault n)) ∧ Ext w w' := by
  have K0 := Blk.new w 72 (p.cells (.slice a n c))
  have E0 : Ext w (w.alloc (.cells (p.cells (.slice a n c)) 72)) := (Ext.refl w).alloc _
  have l0s := K0.p6src
  obtain ⟨m0, m1, m2⟩ := K0.p6nums
  obtain ⟨bh, hbh⟩ : ∃ b, b8 p.hop = b := ⟨_, rfl⟩
  obtain ⟨bk, hbk⟩ : ∃ b, b8 p.kind = b := ⟨_, rfl⟩
  obtain ⟨bs, hbs⟩ : ∃ b, okS p.src = b := ⟨_, rfl⟩
  obtain ⟨bd, hbd⟩ : ∃ b, okS p.dst = b := ⟨_, rfl⟩
  have hg : p.good = (bs && bd && bh && bk) := by unfold P6.good; rw [hbs, hbd, hbh, hbk]
  have HW := Lib.hid (fun W => (show Calls Tryd.prog 94 #[.int .i64 p.hop] W (fun e w' => e = .returned (.bool bh) ∧ W = w') from hbh ▸ isByte_any p.hop W))
  have HK := Lib.hid (fun W => (show Calls Tryd.prog 94 #[.int .i64 p.kind] W (fun e w' => e = .returned (.bool bk) ∧ W = w') from hbk ▸ isByte_any p.kind W))
  have HS := Lib.hid hbs
  have HD := Lib.hid hbd
  have HG := Lib.hid hg
  clear hbh hbk hbs hbd hg
  go_enter Tryd.func75, Tryd.ntmps75
  go_wp2_with fail
  refine (HW.out _).mono ?_
  rintro e w' ⟨rfl, rfl⟩
  go_wp2_with fail
  refine (HK.out _).mono ?_
  rintro e w' ⟨rfl, rfl⟩
  cases bs
  case false =>
    go_wp2_with ((apply load_by rfl _ _ rfl _ rfl); (focus (with_reducible assumption)))
    refine (sixf_no p.src _ HS.out).mono ?_
    rintro e W1 ⟨rfl, q1⟩
    go_wp2_with fail
    go_ret
    exact ⟨by rw [P6.fault_bad (show p.good = false by rw [HG.out]; rfl)]; first | done | rfl, E0.trans q1⟩
  go_wp2_with ((apply load_by rfl _ _ rfl _ rfl); (focus (with_reducible assumption)))
  refine (sixf_yes p.src _ HS.out).mono ?_
  rintro e W1 ⟨rfl, q1⟩
  have l1d := (K0.ext q1).p6dst
  clear l0s
  cases bd
  case false =>
    go_wp2_with ((apply load_by rfl _ _ rfl _ rfl); (focus (with_reducible assumption)))
    refine (sixf_no p.dst _ HD.out).mono ?_
    rintro e W2 ⟨rfl, q2⟩
    go_wp2_with fail
    go_ret
    exact ⟨by rw [P6.fault_bad (show p.good = false by rw [HG.out]; rfl)]; first | done | rfl, (E0.trans q1).trans q2⟩
  go_wp2_with ((apply load_by rfl _ _ rfl _ rfl); (focus (with_reducible assumption)))
  refine (sixf_yes p.dst _ HD.out).mono ?_
  rintro e W2 ⟨rfl, q2⟩
  obtain ⟨k0, k1, k2⟩ := ((K0.ext q1).ext q2).p6nums
  cases bh
  case false =>
    go_wp2_with fail
    go_ret
    exact ⟨by rw [P6.fault_bad (show p.good = false by rw [HG.out]; rfl)]; first | done | rfl, (E0.trans q1).trans q2⟩
  cases bk
  case false =>
    go_wp2_with fail
    go_ret
    exact ⟨by rw [P6.fault_bad (show p.good = false by rw [HG.out]; rfl)]; first | done | rfl, (E0.trans q1).trans q2⟩
  by_cases hn : n ≤ 320
  · skip
    have hn' : ¬ (320 : Int) < (n : Int) := by omega
    go_wp2_with fail
    go_ret
    exact ⟨by rw [P6.fault_none HG.out hn]; first | done | rfl, (E0.trans q1).trans q2⟩
  · skip
    have hn' : (320 : Int) < (n : Int) := by omega
    go_wp2_with fail
    go_ret
    exact ⟨by rw [P6.fault_full HG.out hn]; first | done | rfl, (E0.trans q1).trans q2⟩

set_option maxHeartbeats 1000000 in
theorem rword_any (b off n c k : Nat) (i : Int) (hi : i = k) (x y : Int) (w : World) (hn : k + 1 < n) (hn2 : n ≤ 100000) (h0 : w.cell? ⟨b, off + k, none⟩ = some (.int .u8 x)) (h1 : w.cell? ⟨b, off + (k + 1), none⟩ = some (.int .u8 y)) (hx : 0 ≤ x ∧ x ≤ 255) (hy : 0 ≤ y ∧ y ≤ 255) :
    Calls Tryd.prog 68 #[.slice (some ⟨b, off, none⟩) n c, .int .i64 i] w fun e w' => e = .returned (.int .i64 (x * 256 + y)) ∧ ∃ q, w' = w.drewN q := by
  subst hi
  obtain ⟨x0, x1⟩ := hx
  obtain ⟨y0, y1⟩ := hy
  have l0 : (k : Int) < (n : Int) := by omega
  have l1 : (k : Int) + 1 < (n : Int) := by omega
  have e1 : IntKind.i64.wrap x = x := IntWalk.i64_in _ (by omega)
  have e2 : IntKind.i64.wrap y = y := IntWalk.i64_in _ (by omega)
  have e3 : IntKind.i64.wrap (256 * x) = 256 * x := IntWalk.i64_in _ (by omega)
  have e4 : IntKind.i64.wrap (256 * x + y) = 256 * x + y := IntWalk.i64_in _ (by omega)
  have e5 : IntKind.i64.wrap ((k : Int) + 1) = (k : Int) + 1 := IntWalk.i64_in _ (by omega)
  have e6 : ((k : Int) + 1).toNat = k + 1 := by omega
  go_enter Tryd.func68, Tryd.ntmps68
  go_wp2_with fail
  go_quiet (fail)
  go_wp2_with fail
  go_ret
  exact ⟨ret_int (by omega), nq, rfl⟩
end Go.Proofs.YtkjchddidpjjmaaDoor
/- The document's SegOf: bytes as a segment over something. Conditions: as each theorem states them. -/
namespace Go.Proofs.YtkjchddidpjjmaaDoor
open Go.RowKit
theorem rword_ext (a : Option Addr) (n c k : Nat) (i : Int) (hi : i = k) (xs : List Int) (w : World) (hr : Ints .u8 w a n xs) (hb : Pl.IsB xs) (hn : k + 1 < n) (hn2 : n ≤ 100000) :
    Calls Tryd.prog 68 #[.slice a n c, .int .i64 i] w fun e w' => e = .returned (.int .i64 (Pl.at2 xs k)) ∧ Ext w w' := by
  obtain ⟨b, off, rfl, _, hc⟩ := hr.at (by omega)
  exact (rword_any b off n c k i hi (xs.getD k 0) (xs.getD (k + 1) 0) w hn hn2 (hc k (by omega)) (hc (k + 1) (by omega)) (hb.getD k) (hb.getD (k + 1))).mono fun _ _ ⟨h, q, hq⟩ => ⟨h, by rw [hq]; exact (Ext.refl w).drewN q⟩
/-- What SegOf gives. -/
def RDecGot (k : Int) (xs : List Int) (over : Int) (w : World) (e : Ending) (w' : World) : Prop :=
  ∃ a n c, e = .returned (.tuple #[(Pl.segV k xs over).v (.slice a n c), .int .i64 (Pl.segQ k xs over)]) ∧ Ints .u8 w' a n (Pl.segD k xs over) ∧ Ext w w'
theorem rdecGot_bad {k over q : Int} {xs : List Int} {w w' : World} (h : Pl.segQ k xs over = q) (hq : q ≠ 0) (he : Ext w w') : RDecGot k xs over w (.returned (.tuple #[.agg #[.int .i64 0, .int .i64 0, .int .i64 0, .int .i64 0, .int .i64 0, .int .i64 0, .int .i64 0, .slice none 0 0], .int .i64 q])) w' := by
  refine ⟨none, 0, 0, ?_, ?_, he⟩
  · unfold Pl.segV
    rw [h, if_neg hq]
    rfl
  · unfold Pl.segD
    rw [h, if_neg hq]
    exact Ints.nil
theorem w16_word {n : Int} (h : Pl.Word n) : w16 n = true := by unfold w16; have h0 := h.1; have h1 := h.2; simp [h0, h1]
theorem w16_not_word {n : Int} (h : ¬ Pl.Word n) : w16 n = false := by
  cases hw : w16 n
  · rfl
  · exact absurd (w16_yes hw) h
set_option maxRecDepth 100000 in
set_option maxHeartbeats 2000000 in
theorem rsegOf_bad (k : Int) (a : Option Addr) (n c : Nat) (xs : List Int) (over : Int) (w : World) (h : ¬ (k = 6 ∨ k = 17) ∨ ¬ Pl.Word over) :
    Calls Tryd.prog 33 #[.int .i64 k, .slice a n c, .int .i64 over] w (RDecGot k xs over w) := by
  have HQ := Lib.hid (show Pl.segQ k xs over = 1 by unfold Pl.segQ; rw [if_pos h])
  have KR := Blk.new w 50 #[.int .i64 0, .int .i64 0, .int .i64 0, .int .i64 0, .int .i64 0, .int .i64 0, .int .i64 0, .slice none 0 0]
  have E0 : Ext w (w.alloc (.cells #[.int .i64 0, .int .i64 0, .int .i64 0, .int .i64 0, .int .i64 0, .int .i64 0, .int .i64 0, .slice none 0 0] 50)) := (Ext.refl w).alloc _
  have s0 := sto KR ⟨0, 0, 0, 0, 0, 0, 0⟩ none 0 0
  by_cases hk : k = 6 ∨ k = 17
  case neg =>
    have k6 : (k != 6) = true := by simp; omega
    have k17 : (k != 17) = true := by simp; omega
    clear h hk
    go_enter Tryd.func33, Tryd.ntmps33
    go_wp2_with fail
    refine (word_any _ _).mono ?_
    rintro e w' ⟨rfl, rfl⟩
    go_wp2_with ((apply store_by rfl _ _ _ rfl _ rfl); (focus (with_reducible assumption)); (focus rfl))
    refine bodyPost_ret (results_cell2 Tryd.results33 _ _ w.heap.size 50 #[.int .i64 0, .int .i64 0, .int .i64 0, .int .i64 0, .int .i64 0, .int .i64 0, .int .i64 0, .slice none 0 0] _ rfl (KR.row _) Tryd.underlying50 rfl Tryd.sizeSeg) rfl (rdecGot_bad HQ.out (by decide) (E0.row (Nat.le_refl _) _))
  have HO := Lib.hid (w16_not_word (show ¬ Pl.Word over from fun ho => by rcases h with h | h; exact h hk; exact h ho))
  rcases hk with rfl | rfl
  all_goals
    clear h
    go_enter Tryd.func33, Tryd.ntmps33
    go_wp2_with fail
    refine (word_any _ _).mono ?_
    rintro e w' ⟨rfl, rfl⟩
    rw [HO.out]
    go_wp2_with ((apply store_by rfl _ _ _ rfl _ rfl); (focus (with_reducible assumption)); (focus rfl))
    refine bodyPost_ret (results_cell2 Tryd.results33 _ _ w.heap.size 50 #[.int .i64 0, .int .i64 0, .int .i64 0, .int .i64 0, .int .i64 0, .int .i64 0, .int .i64 0, .slice none 0 0] _ rfl (KR.row _) Tryd.underlying50 rfl Tryd.sizeSeg) rfl (rdecGot_bad HQ.out (by decide) (E0.row (Nat.le_refl _) _))
set_option maxRecDepth 100000 in
set_option maxHeartbeats 2000000 in
theorem rsegOf_short17 (a : Option Addr) (n c : Nat) (xs : List Int) (over : Int) (w : World) (hr : Ints .u8 w a n xs) (ho : Pl.Word over) (h : n < 8 ∨ 308 < n) :
    Calls Tryd.prog 33 #[.int .i64 17, .slice a n c, .int .i64 over] w (RDecGot 17 xs over w) := by
  have hl := hr.len
  have HQ := Lib.hid (show Pl.segQ 17 xs over = 5 by
    rw [Pl.segQ_of (by decide) ho, if_pos]
    rintro ⟨h2, _⟩
    rw [show Pl.segSize 17 = 8 from rfl] at h2
    omega)
  have KR := Blk.new w 50 #[.int .i64 0, .int .i64 0, .int .i64 0, .int .i64 0, .int .i64 0, .int .i64 0, .int .i64 0, .slice none 0 0]
  have E0 : Ext w (w.alloc (.cells #[.int .i64 0, .int .i64 0, .int .i64 0, .int .i64 0, .int .i64 0, .int .i64 0, .int .i64 0, .slice none 0 0] 50)) := (Ext.refl w).alloc _
  have s0 := sto KR ⟨0, 0, 0, 0, 0, 0, 0⟩ none 0 0
  have HO := Lib.hid (w16_word ho)
  clear ho
  rcases h with h | h
  · have h' : (n : Int) < 8 := by omega
    clear h
    go_enter Tryd.func33, Tryd.ntmps33
    go_wp2_with fail
    refine (word_any _ _).mono ?_
    rintro e w' ⟨rfl, rfl⟩
    rw [HO.out]
    go_wp2_with ((apply store_by rfl _ _ _ rfl _ rfl); (focus (with_reducible assumption)); (focus rfl))
    refine bodyPost_ret (results_cell2 Tryd.results33 _ _ w.heap.size 50 #[.int .i64 0, .int .i64 0, .int .i64 0, .int .i64 0, .int .i64 0, .int .i64 0, .int .i64 0, .slice none 0 0] _ rfl (KR.row _) Tryd.underlying50 rfl Tryd.sizeSeg) rfl (rdecGot_bad HQ.out (by decide) (E0.row (Nat.le_refl _) _))
  · have h' : (308 : Int) < (n : Int) := by omega
    have h'' : ¬ (n : Int) < 8 := by omega
    clear h
    go_enter Tryd.func33, Tryd.ntmps33
    go_wp2_with fail
    refine (word_any _ _).mono ?_
    rintro e w' ⟨rfl, rfl⟩
    rw [HO.out]
    go_wp2_with ((apply store_by rfl _ _ _ rfl _ rfl); (focus (with_reducible assumption)); (focus rfl))
    refine bodyPost_ret (results_cell2 Tryd.results33 _ _ w.heap.size 50 #[.int .i64 0, .int .i64 0, .int .i64 0, .int .i64 0, .int .i64 0, .int .i64 0, .int .i64 0, .slice none 0 0] _ rfl (KR.row _) Tryd.underlying50 rfl Tryd.sizeSeg) rfl (rdecGot_bad HQ.out (by decide) (E0.row (Nat.le_refl _) _))
set_option maxRecDepth 100000 in
set_option maxHeartbeats 2000000 in
theorem rsegOf_short6 (a : Option Addr) (n c : Nat) (xs : List Int) (over : Int) (w : World) (hr : Ints .u8 w a n xs) (ho : Pl.Word over) (h : n < 20 ∨ 320 < n) :
    Calls Tryd.prog 33 #[.int .i64 6, .slice a n c, .int .i64 over] w (RDecGot 6 xs over w) := by
  have hl := hr.len
  have HQ := Lib.hid (show Pl.segQ 6 xs over = 5 by
    rw [Pl.segQ_of (by decide) ho, if_pos]
    rintro ⟨h2, _⟩
    rw [show Pl.segSize 6 = 20 from rfl] at h2
    omega)
  have KR := Blk.new w 50 #[.int .i64 0, .int .i64 0, .int .i64 0, .int .i64 0, .int .i64 0, .int .i64 0, .int .i64 0, .slice none 0 0]
  have E0 : Ext w (w.alloc (.cells #[.int .i64 0, .int .i64 0, .int .i64 0, .int .i64 0, .int .i64 0, .int .i64 0, .int .i64 0, .slice none 0 0] 50)) := (Ext.refl w).alloc _
  have s0 := sto KR ⟨0, 0, 0, 0, 0, 0, 0⟩ none 0 0
  have HO := Lib.hid (w16_word ho)
  clear ho
  rcases h with h | h
  · have h' : (n : Int) < 20 := by omega
    clear h
    go_enter Tryd.func33, Tryd.ntmps33
    go_wp2_with fail
    refine (word_any _ _).mono ?_
    rintro e w' ⟨rfl, rfl⟩
    rw [HO.out]
    go_wp2_with ((apply store_by rfl _ _ _ rfl _ rfl); (focus (with_reducible assumption)); (focus rfl))
    refine bodyPost_ret (results_cell2 Tryd.results33 _ _ w.heap.size 50 #[.int .i64 0, .int .i64 0, .int .i64 0, .int .i64 0, .int .i64 0, .int .i64 0, .int .i64 0, .slice none 0 0] _ rfl (KR.row _) Tryd.underlying50 rfl Tryd.sizeSeg) rfl (rdecGot_bad HQ.out (by decide) (E0.row (Nat.le_refl _) _))
  · have h' : (320 : Int) < (n : Int) := by omega
    have h'' : ¬ (n : Int) < 20 := by omega
    clear h
    go_enter Tryd.func33, Tryd.ntmps33
    go_wp2_with fail
    refine (word_any _ _).mono ?_
    rintro e w' ⟨rfl, rfl⟩
    rw [HO.out]
    go_wp2_with ((apply store_by rfl _ _ _ rfl _ rfl); (focus (with_reducible assumption)); (focus rfl))
    refine bodyPost_ret (results_cell2 Tryd.results33 _ _ w.heap.size 50 #[.int .i64 0, .int .i64 0, .int .i64 0, .int .i64 0, .int .i64 0, .int .i64 0, .int .i64 0, .slice none 0 0] _ rfl (KR.row _) Tryd.underlying50 rfl Tryd.sizeSeg) rfl (rdecGot_bad HQ.out (by decide) (E0.row (Nat.le_refl _) _))
set_option maxRecDepth 100000 in
set_option maxHeartbeats 8000000 in
theorem rsegOf_core17 (a : Option Addr) (n c : Nat) (xs : List Int) (over : Int) (w : World) (hr : Ints .u8 w a n xs) (hb : Pl.IsB xs) (hnc : n ≤ c) (hc : a = none → c = 0) (ho : Pl.Word over) (h0 : 8 ≤ n) (h1 : n ≤ 308) :
    Calls Tryd.prog 33 #[.int .i64 17, .slice a n c, .int .i64 over] w (RDecGot 17 xs over w) := by
  obtain ⟨b, off, rfl, hbl, hcell⟩ := hr.at (by omega)
  have hl := hr.len
  have HR := Lib.hid hr
  have HB := Lib.hid hb
  have HO := Lib.hid ho
  have HO' := Lib.hid (w16_word ho)
  have HL := Lib.hid hl
  have KR := Blk.new w 50 #[.int .i64 0, .int .i64 0, .int .i64 0, .int .i64 0, .int .i64 0, .int .i64 0, .int .i64 0, .slice none 0 0]
  have E0 : Ext w (w.alloc (.cells #[.int .i64 0, .int .i64 0, .int .i64 0, .int .i64 0, .int .i64 0, .int .i64 0, .int .i64 0, .slice none 0 0] 50)) := (Ext.refl w).alloc _
  obtain ⟨AS, iS, zS, rS⟩ := slice_tail (some ⟨b, off, none⟩) n c 8 8 rfl (by omega) hnc hc
  have HIS := Lib.hid (fun (W : World) (q : Ext w W) => (iS W xs (hr.ext q)))
  have F0 := Lib.hid (fun (W : World) (q : Ext w W) => rword_ext (some ⟨b, off, none⟩) n c 0 0 rfl xs W (hr.ext q) hb (by omega) (by omega))
  have F2 := Lib.hid (fun (W : World) (q : Ext w W) => rword_ext (some ⟨b, off, none⟩) n c 2 2 rfl xs W (hr.ext q) hb (by omega) (by omega))
  have F6 := Lib.hid (fun (W : World) (q : Ext w W) => rword_ext (some ⟨b, off, none⟩) n c 6 6 rfl xs W (hr.ext q) hb (by omega) (by omega))
  have F4 := Lib.hid (fun (W : World) (q : Ext w W) => rword_ext (some ⟨b, off, none⟩) n c 4 4 rfl xs W (hr.ext q) hb (by omega) (by omega))
  have l0 : ¬ (n : Int) < 8 := by omega
  have l1 : ¬ (308 : Int) < (n : Int) := by omega
  have HCELL := Lib.hid (fun (W : World) (q : Ext w W) j (hj : j < n) => (World.cell?_of_block (a := ⟨b, off + j, none⟩) (Below.block q b hbl)).trans (hcell j hj))
  have HQ := Lib.hid (Pl.segQ_of (k := 17) (over := over) (xs := xs) (by decide) ho)
  clear hcell hr hb ho hl iS zS hc
  go_enter Tryd.func33, Tryd.ntmps33
  go_wp2_with fail
  refine (word_any _ _).mono ?_
  rintro e w' ⟨rfl, rfl⟩
  rw [HO'.out]
  go_upto_region 9 with (fail)
  refine at_worldE (fun W => Ext w W ∧ Blk W w.heap.size 50 #[.int .i64 0, .int .i64 0, .int .i64 0, .int .i64 0, .int .i64 0, .int .i64 0, .int .i64 0, .slice none 0 0]) ⟨E0, KR⟩ ?_
  clear E0 KR
  rintro W0 ⟨E0, KR⟩
  go_cut [10] (fun p wc => ∃ g, p = .pointer (some ⟨g, 0, none⟩) ∧ W0.heap.size ≤ g ∧ Blk wc g 50 ((⟨17, Pl.at2 xs 0, Pl.at2 xs 2, 0, 0, 0, 0⟩ : Sg).cells (.slice AS (n - 8) (c - 8))) ∧ Ext W0 wc)
  case first =>
    have EX : Ext W0 W0.drew := (Ext.refl W0).drew
    refine wp_region_held_drew (S := (fun _ => True)) (by kernel_rfl) trivial (fun hS0 => ?_)
    generalize W0.drew = V0 at *
    (refine wpAnyH_take (i := 0) (v := ?_) rfl (by kernel_rfl) (by kernel_rfl) (by kernel_rfl) (fun _ _ _ h => h) (Or.inl ⟨by rfl, ?_⟩) (by assumption) ?_; rotate_left; focus (intro w hSw; (try dsimp only at hSw); go_simp; try with_reducible rfl); try simp only [Act.put, List.getElem_toArray, List.getElem_cons_succ, List.getElem_cons_zero, List.setIfInBounds_toArray, List.set_cons_zero, List.set_cons_succ])
    (refine wpAnyH_take (i := 1) (v := ?_) rfl (by kernel_rfl) (by kernel_rfl) (by kernel_rfl) (fun _ _ _ h => h) (Or.inl ⟨by rfl, ?_⟩) (by assumption) ?_; rotate_left; focus (intro w hSw; (try dsimp only at hSw); go_simp; try with_reducible rfl); try simp only [Act.put, List.getElem_toArray, List.getElem_cons_succ, List.getElem_cons_zero, List.setIfInBounds_toArray, List.set_cons_zero, List.set_cons_succ])
    (refine wpAnyH_take (i := 3) (v := ?_) rfl (by kernel_rfl) (by kernel_rfl) (by kernel_rfl) (fun _ _ _ h => h) (Or.inl ⟨by rfl, ?_⟩) (by assumption) ?_; rotate_left; focus (intro w hSw; (try dsimp only at hSw); go_simp; try with_reducible rfl); try simp only [Act.put, List.getElem_toArray, List.getElem_cons_succ, List.getElem_cons_zero, List.setIfInBounds_toArray, List.set_cons_zero, List.set_cons_succ])
    (refine wpAnyH_take (i := 5) (v := ?_) rfl (by kernel_rfl) (by kernel_rfl) (by kernel_rfl) (fun _ _ _ h => h) (Or.inl ⟨by rfl, ?_⟩) (by assumption) ?_; rotate_left; focus (intro w hSw; (try dsimp only at hSw); go_simp; try with_reducible rfl); try simp only [Act.put, List.getElem_toArray, List.getElem_cons_succ, List.getElem_cons_zero, List.setIfInBounds_toArray, List.set_cons_zero, List.set_cons_succ])
    (refine wpAnyH_take (i := 6) (v := ?_) rfl (by kernel_rfl) (by kernel_rfl) (by kernel_rfl) (fun _ _ _ h => h) (Or.inl ⟨by rfl, ?_⟩) (by assumption) ?_; rotate_left; focus (intro w hSw; (try dsimp only at hSw); go_simp; try with_reducible rfl); try simp only [Act.put, List.getElem_toArray, List.getElem_cons_succ, List.getElem_cons_zero, List.setIfInBounds_toArray, List.set_cons_zero, List.set_cons_succ])
    (refine wpAnyH_take (i := 7) (v := ?_) rfl (by kernel_rfl) (by kernel_rfl) (by kernel_rfl) (fun _ _ _ h => h) (Or.inl ⟨by rfl, ?_⟩) (by assumption) ?_; rotate_left; focus (intro w hSw; (try dsimp only at hSw); go_simp; try with_reducible rfl); try simp only [Act.put, List.getElem_toArray, List.getElem_cons_succ, List.getElem_cons_zero, List.setIfInBounds_toArray, List.set_cons_zero, List.set_cons_succ])
    refine wpAnyH_ready (rs := [2, 9]) (by kernel_rfl) (by simp) ?_
    refine AllReadyH.cons rfl (fun K hK => ?_) (AllReadyH.cons rfl (fun K hK => ?_) AllReadyH.nil)
    · go_simp
      go_at_call 68
      refine (F0.out _ (E0.trans EX)).mono ?_
      rintro e V1 ⟨rfl, q⟩
      replace EX := EX.trans q
      refine hK.out _ _ trivial ?_
      clear hK K q
      intro hS
      (try simp only [Act.put, List.getElem_toArray, List.getElem_cons_succ, List.getElem_cons_zero, List.setIfInBounds_toArray, List.set_cons_zero, List.set_cons_succ])
      refine wpAnyH_ready (rs := [4, 9]) (by kernel_rfl) (by simp) ?_
      refine AllReadyH.cons rfl (fun K hK => ?_) (AllReadyH.cons rfl (fun K hK => ?_) AllReadyH.nil)
      · go_simp
        go_at_call 68
        refine (F2.out _ (E0.trans EX)).mono ?_
        rintro e V2 ⟨rfl, q⟩
        replace EX := EX.trans q
        refine hK.out _ _ trivial ?_
        clear hK K q
        intro hS
        (try simp only [Act.put, List.getElem_toArray, List.getElem_cons_succ, List.getElem_cons_zero, List.setIfInBounds_toArray, List.set_cons_zero, List.set_cons_succ])
        (refine wpAnyH_take (i := 8) (v := ?_) rfl (by kernel_rfl) (by kernel_rfl) (by kernel_rfl) (fun _ _ _ h => h) (Or.inl ⟨by rfl, ?_⟩) (by assumption) ?_; rotate_left; focus (intro w hSw; (try dsimp only at hSw); go_simp; try with_reducible rfl); try simp only [Act.put, List.getElem_toArray, List.getElem_cons_succ, List.getElem_cons_zero, List.setIfInBounds_toArray, List.set_cons_zero, List.set_cons_succ])
        refine wpAnyH_ready (rs := [9]) (by kernel_rfl) (by simp) ?_
        refine AllReadyH.cons rfl (fun K hK => ?_) AllReadyH.nil
        · go_simp
          have KG := Blk.new V2 50 #[.int .i64 0, .int .i64 0, .int .i64 0, .int .i64 0, .int .i64 0, .int .i64 0, .int .i64 0, .slice none 0 0]
          have EX3 := EX.alloc (.cells #[.int .i64 0, .int .i64 0, .int .i64 0, .int .i64 0, .int .i64 0, .int .i64 0, .int .i64 0, .slice none 0 0] 50)
          have hgl : W0.heap.size ≤ V2.heap.size := EX.size
          refine hK.out _ _ trivial ?_
          clear hK K
          intro hS
          clear EX
          generalize V2.alloc (.cells #[.int .i64 0, .int .i64 0, .int .i64 0, .int .i64 0, .int .i64 0, .int .i64 0, .int .i64 0, .slice none 0 0] 50) = V3 at *
          have EX := EX3
          clear EX3
          generalize V2.heap.size = g at *
          (try simp only [Act.put, List.getElem_toArray, List.getElem_cons_succ, List.getElem_cons_zero, List.setIfInBounds_toArray, List.set_cons_zero, List.set_cons_succ])
          (refine wpAnyH_ready (rs := [10]) (by kernel_rfl) (by simp) ?_; refine AllReadyH.cons rfl (fun K hK => ?_) AllReadyH.nil)
          rw [if_pos (by rfl)]
          refine wp_store_by _ _ _ rfl _ rfl (sto KG ⟨17, Pl.at2 xs 0, Pl.at2 xs 2, 0, 0, 0, 0⟩ AS (n - 8) (c - 8)) rfl ?_
          refine hK.out _ _ trivial ?_
          clear hK K
          intro hS
          (try simp only [Act.put])
          refine wpAnyH_done (by kernel_rfl) ?_ _
          have K8 := KG.row ((⟨17, Pl.at2 xs 0, Pl.at2 xs 2, 0, 0, 0, 0⟩ : Sg).cells (.slice AS (n - 8) (c - 8)))
          have E8 := EX.row hgl ((⟨17, Pl.at2 xs 0, Pl.at2 xs 2, 0, 0, 0, 0⟩ : Sg).cells (.slice AS (n - 8) (c - 8)))
          go_wp2_with fail
          go_meet
          exact ⟨_, rfl, hgl, K8, E8⟩
      · go_simp
        have KG := Blk.new V1 50 #[.int .i64 0, .int .i64 0, .int .i64 0, .int .i64 0, .int .i64 0, .int .i64 0, .int .i64 0, .slice none 0 0]
        have EX2 := EX.alloc (.cells #[.int .i64 0, .int .i64 0, .int .i64 0, .int .i64 0, .int .i64 0, .int .i64 0, .int .i64 0, .slice none 0 0] 50)
        have hgl : W0.heap.size ≤ V1.heap.size := EX.size
        refine hK.out _ _ trivial ?_
        clear hK K
        intro hS
        clear EX
        generalize V1.alloc (.cells #[.int .i64 0, .int .i64 0, .int .i64 0, .int .i64 0, .int .i64 0, .int .i64 0, .int .i64 0, .slice none 0 0] 50) = V2 at *
        have EX := EX2
        clear EX2
        generalize V1.heap.size = g at *
        (try simp only [Act.put, List.getElem_toArray, List.getElem_cons_succ, List.getElem_cons_zero, List.setIfInBounds_toArray, List.set_cons_zero, List.set_cons_succ])
        refine wpAnyH_ready (rs := [4]) (by kernel_rfl) (by simp) ?_
        refine AllReadyH.cons rfl (fun K hK => ?_) AllReadyH.nil
        · go_simp
          go_at_call 68
          refine (F2.out _ (E0.trans EX)).mono ?_
          rintro e V3 ⟨rfl, q⟩
          replace EX := EX.trans q
          replace KG := KG.ext q
          refine hK.out _ _ trivial ?_
          clear hK K q
          intro hS
          (try simp only [Act.put, List.getElem_toArray, List.getElem_cons_succ, List.getElem_cons_zero, List.setIfInBounds_toArray, List.set_cons_zero, List.set_cons_succ])
          (refine wpAnyH_take (i := 8) (v := ?_) rfl (by kernel_rfl) (by kernel_rfl) (by kernel_rfl) (fun _ _ _ h => h) (Or.inl ⟨by rfl, ?_⟩) (by assumption) ?_; rotate_left; focus (intro w hSw; (try dsimp only at hSw); go_simp; try with_reducible rfl); try simp only [Act.put, List.getElem_toArray, List.getElem_cons_succ, List.getElem_cons_zero, List.setIfInBounds_toArray, List.set_cons_zero, List.set_cons_succ])
          (refine wpAnyH_ready (rs := [10]) (by kernel_rfl) (by simp) ?_; refine AllReadyH.cons rfl (fun K hK => ?_) AllReadyH.nil)
          rw [if_pos (by rfl)]
          refine wp_store_by _ _ _ rfl _ rfl (sto KG ⟨17, Pl.at2 xs 0, Pl.at2 xs 2, 0, 0, 0, 0⟩ AS (n - 8) (c - 8)) rfl ?_
          refine hK.out _ _ trivial ?_
          clear hK K
          intro hS
          (try simp only [Act.put, List.getElem_toArray, List.getElem_cons_succ, List.getElem_cons_zero, List.setIfInBounds_toArray, List.set_cons_zero, List.set_cons_succ])
          refine wpAnyH_done (by kernel_rfl) ?_ _
          have K8 := KG.row ((⟨17, Pl.at2 xs 0, Pl.at2 xs 2, 0, 0, 0, 0⟩ : Sg).cells (.slice AS (n - 8) (c - 8)))
          have E8 := EX.row hgl ((⟨17, Pl.at2 xs 0, Pl.at2 xs 2, 0, 0, 0, 0⟩ : Sg).cells (.slice AS (n - 8) (c - 8)))
          go_wp2_with fail
          go_meet
          exact ⟨_, rfl, hgl, K8, E8⟩
    · go_simp
      have KG := Blk.new V0 50 #[.int .i64 0, .int .i64 0, .int .i64 0, .int .i64 0, .int .i64 0, .int .i64 0, .int .i64 0, .slice none 0 0]
      have EX1 := EX.alloc (.cells #[.int .i64 0, .int .i64 0, .int .i64 0, .int .i64 0, .int .i64 0, .int .i64 0, .int .i64 0, .slice none 0 0] 50)
      have hgl : W0.heap.size ≤ V0.heap.size := EX.size
      refine hK.out _ _ trivial ?_
      clear hK K
      intro hS
      clear EX
      generalize V0.alloc (.cells #[.int .i64 0, .int .i64 0, .int .i64 0, .int .i64 0, .int .i64 0, .int .i64 0, .int .i64 0, .slice none 0 0] 50) = V1 at *
      have EX := EX1
      clear EX1
      generalize V0.heap.size = g at *
      (try simp only [Act.put, List.getElem_toArray, List.getElem_cons_succ, List.getElem_cons_zero, List.setIfInBounds_toArray, List.set_cons_zero, List.set_cons_succ])
      refine wpAnyH_ready (rs := [2]) (by kernel_rfl) (by simp) ?_
      refine AllReadyH.cons rfl (fun K hK => ?_) AllReadyH.nil
      · go_simp
        go_at_call 68
        refine (F0.out _ (E0.trans EX)).mono ?_
        rintro e V2 ⟨rfl, q⟩
        replace EX := EX.trans q
        replace KG := KG.ext q
        refine hK.out _ _ trivial ?_
        clear hK K q
        intro hS
        (try simp only [Act.put, List.getElem_toArray, List.getElem_cons_succ, List.getElem_cons_zero, List.setIfInBounds_toArray, List.set_cons_zero, List.set_cons_succ])
        refine wpAnyH_ready (rs := [4]) (by kernel_rfl) (by simp) ?_
        refine AllReadyH.cons rfl (fun K hK => ?_) AllReadyH.nil
        · go_simp
          go_at_call 68
          refine (F2.out _ (E0.trans EX)).mono ?_
          rintro e V3 ⟨rfl, q⟩
          replace EX := EX.trans q
          replace KG := KG.ext q
          refine hK.out _ _ trivial ?_
          clear hK K q
          intro hS
          (try simp only [Act.put, List.getElem_toArray, List.getElem_cons_succ, List.getElem_cons_zero, List.setIfInBounds_toArray, List.set_cons_zero, List.set_cons_succ])
          (refine wpAnyH_take (i := 8) (v := ?_) rfl (by kernel_rfl) (by kernel_rfl) (by kernel_rfl) (fun _ _ _ h => h) (Or.inl ⟨by rfl, ?_⟩) (by assumption) ?_; rotate_left; focus (intro w hSw; (try dsimp only at hSw); go_simp; try with_reducible rfl); try simp only [Act.put, List.getElem_toArray, List.getElem_cons_succ, List.getElem_cons_zero, List.setIfInBounds_toArray, List.set_cons_zero, List.set_cons_succ])
          (refine wpAnyH_ready (rs := [10]) (by kernel_rfl) (by simp) ?_; refine AllReadyH.cons rfl (fun K hK => ?_) AllReadyH.nil)
          rw [if_pos (by rfl)]
          refine wp_store_by _ _ _ rfl _ rfl (sto KG ⟨17, Pl.at2 xs 0, Pl.at2 xs 2, 0, 0, 0, 0⟩ AS (n - 8) (c - 8)) rfl ?_
          refine hK.out _ _ trivial ?_
          clear hK K
          intro hS
          (try simp only [Act.put, List.getElem_toArray, List.getElem_cons_succ, List.getElem_cons_zero, List.setIfInBounds_toArray, List.set_cons_zero, List.set_cons_succ])
          refine wpAnyH_done (by kernel_rfl) ?_ _
          have K8 := KG.row ((⟨17, Pl.at2 xs 0, Pl.at2 xs 2, 0, 0, 0, 0⟩ : Sg).cells (.slice AS (n - 8) (c - 8)))
          have E8 := EX.row hgl ((⟨17, Pl.at2 xs 0, Pl.at2 xs 2, 0, 0, 0, 0⟩ : Sg).cells (.slice AS (n - 8) (c - 8)))
          go_wp2_with fail
          go_meet
          exact ⟨_, rfl, hgl, K8, E8⟩
  obtain ⟨g, rfl, hgl, KG, EG⟩ := hcut
  have EW := E0.trans EG
  have KW := KR.ext EG
  have hww := KW.lt
  have hgw : g ≠ w.heap.size := by have := KR.lt; omega
  clear E0 EG KR F0 F2
  have hd : (⟨17, Pl.at2 xs 0, Pl.at2 xs 2, 0, 0, 0, 0⟩ : Sg) = Pl.decSeg 17 xs := rfl
  rw [hd] at KG
  clear hd
  generalize W0.heap.size = Z0 at *
  go_wp2_with fail
  refine (F6.out wc EW).mono ?_
  rintro e W1 ⟨rfl, q1⟩
  have E1 := EW.trans q1
  have KW1 := KW.ext q1
  have KG1 := KG.ext q1
  clear KW KG q1
  go_wp2_with fail
  refine (F4.out W1 E1).mono ?_
  rintro e W2 ⟨rfl, q2⟩
  have E2 := E1.trans q2
  have KW2 := KW1.ext q2
  have KG2 := KG1.ext q2
  clear KW1 KG1 q2 E1 EW F4 F6
  by_cases h4 : Pl.at2 xs 4 = (n : Int)
  case neg =>
    have HQ5 := Lib.hid (show Pl.segQ 17 xs over = 5 by
      rw [HQ.out, if_pos]
      rintro ⟨_, _, h⟩
      exact h4 (by rw [h rfl, HL.out]))
    have h4' : (Pl.at2 xs 4 != (n : Int)) = true := by simpa using h4
    have s0 := sto KW2 ⟨0, 0, 0, 0, 0, 0, 0⟩ none 0 0
    clear h4
    go_wp2_with ((apply store_by rfl _ _ _ rfl _ rfl); (focus (with_reducible assumption)); (focus rfl))
    refine bodyPost_ret (results_cell2 Tryd.results33 _ _ w.heap.size 50 #[.int .i64 0, .int .i64 0, .int .i64 0, .int .i64 0, .int .i64 0, .int .i64 0, .int .i64 0, .slice none 0 0] _ rfl (KW2.row _) Tryd.underlying50 rfl Tryd.sizeSeg) rfl (rdecGot_bad HQ5.out (by decide) (E2.row (Nat.le_refl _) _))
  have HI := Lib.hid (show Pl.IsSeg 17 xs from ⟨by rw [HL.out, show Pl.segSize 17 = 8 from rfl]; omega, (fun h => by cases h), fun _ => by rw [h4, HL.out]⟩)
  have h4' : (Pl.at2 xs 4 != (n : Int)) = false := by simpa using h4
  have hok : Pl.SegOk (Pl.decSeg 17 xs) (n - 8) := Pl.decSeg_ok (by decide) HB.out (by omega)
  have ld := KG2.seg
  clear h4
  go_wp2_with ((apply load_by rfl _ _ rfl _ rfl); (focus (with_reducible assumption)))
  refine (rcheckOf_any (Pl.decSeg 17 xs) AS (n - 8) (c - 8) (xs.drop 8) over W2 hok (HIS.out _ E2) (HB.out.drop 8) HO.out).mono ?_
  rintro e W3 ⟨rfl, q3⟩
  have E3 := E2.trans q3
  have KW3 := KW2.ext q3
  have KG3 := KG2.ext q3
  clear ld KW2 KG2 q3 E2 hok h4'
  by_cases hck : Pl.at2 xs 6 = Pl.segCheck (Pl.decSeg 17 xs) over (xs.drop 8)
  case neg =>
    have HQ6 := Lib.hid (show Pl.segQ 17 xs over = 6 by
      rw [HQ.out, if_neg (fun h => h HI.out), show Pl.segAt 17 = 6 from rfl, show Pl.segSize 17 = 8 from rfl, if_neg hck])
    have hck' : (Pl.at2 xs 6 != Pl.segCheck (Pl.decSeg 17 xs) over (xs.drop 8)) = true := by simpa using hck
    have s0 := sto KW3 ⟨0, 0, 0, 0, 0, 0, 0⟩ none 0 0
    clear hck
    go_wp2_with ((apply store_by rfl _ _ _ rfl _ rfl); (focus (with_reducible assumption)); (focus rfl))
    refine bodyPost_ret (results_cell2 Tryd.results33 _ _ w.heap.size 50 #[.int .i64 0, .int .i64 0, .int .i64 0, .int .i64 0, .int .i64 0, .int .i64 0, .int .i64 0, .slice none 0 0] _ rfl (KW3.row _) Tryd.underlying50 rfl Tryd.sizeSeg) rfl (rdecGot_bad HQ6.out (by decide) (E3.row (Nat.le_refl _) _))
  have HQ0 := Lib.hid (show Pl.segQ 17 xs over = 0 by
    rw [HQ.out, if_neg (fun h => h HI.out), show Pl.segAt 17 = 6 from rfl, show Pl.segSize 17 = 8 from rfl, if_pos hck])
  have hck' : (Pl.at2 xs 6 != Pl.segCheck (Pl.decSeg 17 xs) over (xs.drop 8)) = false := by simpa using hck
  have ld := KG3.seg
  have s2 := sto KW3 (Pl.decSeg 17 xs) AS (n - 8) (c - 8)
  clear hck
  go_wp2_with (first | ((apply load_by rfl _ _ rfl _ rfl); (focus (with_reducible assumption))) | ((apply store_by rfl _ _ _ rfl _ rfl); (focus (with_reducible assumption)); (focus rfl)))
  refine bodyPost_ret (results_cell2 Tryd.results33 _ _ w.heap.size 50 ((Pl.decSeg 17 xs).cells (.slice AS (n - 8) (c - 8))) _ rfl (KW3.row _) Tryd.underlying50 rfl Tryd.sizeSeg) rfl ?_
  refine ⟨AS, n - 8, c - 8, ?_, ?_, E3.row (Nat.le_refl _) _⟩
  · unfold Pl.segV
    rw [HQ0.out, if_pos rfl]
    rfl
  · unfold Pl.segD
    rw [HQ0.out, if_pos rfl]
    exact HIS.out _ (E3.row (Nat.le_refl _) _)
end Go.Proofs.YtkjchddidpjjmaaDoor
