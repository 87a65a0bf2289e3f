/- The contracts of slices.Concat at three slices of bytes, and of seg.over. Conditions: as each theorem states them. -/
import Derived.Test.YtoaahiclmodcgaaConcat
import Derived.Test.YtoaahiclmodcgaaRef4
import Derived.Test.YtoaahiclmodcgaaSame
namespace Go.Proofs.Ytoaahiclmodcgaa
open Go.RowKit

set_option maxRecDepth 100000 in
set_option maxHeartbeats 2000000 in
theorem concat3 (g : Nat) (a1 : Option Addr) (n1 c1 : Nat) (x1 : List Int) (a2 : Option Addr) (n2 c2 : Nat) (x2 : List Int) (a3 : Option Addr) (n3 c3 : Nat) (x3 : List Int) (w : World) (K : Blk w g 41 #[.slice a1 n1 c1, .slice a2 n2 c2, .slice a3 n3 c3])
    (h1 : Ints .u8 w a1 n1 x1) (h2 : Ints .u8 w a2 n2 x2) (h3 : Ints .u8 w a3 n3 x3) (hn : n1 + n2 + n3 ≤ 10000) :
    Calls Try.prog 30 #[.slice (some ⟨g, 0, none⟩) 3 3] w fun e w' => ∃ v, e = .returned v ∧ Own w' w.heap.size v (x1 ++ x2 ++ x3) ∧ Ext w w' := by
  have H1 := Lib.hid h1
  have H2 := Lib.hid h2
  have H3 := Lib.hid h3
  have HK := Lib.hid K
  have k0 : w.cell? ⟨g, 0, none⟩ = some (.slice a1 n1 c1) := K.cells 0
  have k1 : w.cell? ⟨g, 1, none⟩ = some (.slice a2 n2 c2) := K.cells 1
  have k2 : w.cell? ⟨g, 2, none⟩ = some (.slice a3 n3 c3) := K.cells 2
  have HC := Lib.hid (show (n1 : Int) + (n2 : Int) = ((n1 + n2 : Nat) : Int) by omega)
  have hz1 : ¬ (n1 : Int) < 0 := by omega
  obtain ⟨m2, hm2⟩ : ∃ m, m = n1 + n2 := ⟨_, rfl⟩
  obtain ⟨m3, hm3⟩ : ∃ m, m = n1 + n2 + n3 := ⟨_, rfl⟩
  have HM2 := Lib.hid hm2
  have HM3 := Lib.hid hm3
  have b2 : m2 ≤ 10000 := by omega
  have b3 : m3 ≤ 10000 := by omega
  clear h1 h2 h3 K hm2 hm3
  go_enter Try.func30, Try.ntmps30
  go_wp2_with fail
  go_loopw [3, 11] (fun s k wr => w = wr ∧ ((k = .int .i64 0 ∧ s = .int .i64 0) ∨ (k = .int .i64 1 ∧ s = .int .i64 n1) ∨ (k = .int .i64 2 ∧ s = .int .i64 (m2 : Int)) ∨ (k = .int .i64 3 ∧ s = .int .i64 (m3 : Int)))) (fun _ k _ => 3 - (intOf k).toNat)
  case atStart => exact ⟨rfl, .inl ⟨rfl, rfl⟩⟩
  case round =>
    obtain ⟨rfl, ⟨rfl, rfl⟩ | ⟨rfl, rfl⟩ | ⟨rfl, rfl⟩ | ⟨rfl, rfl⟩⟩ := hrel
    · go_wp2_with fail
      go_roundw
      case rel => exact ⟨trivial, .inr (.inl ⟨rfl, rfl⟩)⟩
      case measure => simp [intOf]
    · have hz2 : ¬ (n1 : Int) + (n2 : Int) < 0 := by omega
      have ew : IntKind.i64.wrap ((n1 : Int) + (n2 : Int)) = (n1 : Int) + (n2 : Int) := IntWalk.i64_in _ (by omega)
      go_wp2_with fail
      go_roundw
      case rel => exact ⟨trivial, .inr (.inr (.inl ⟨rfl, val_int (by have := HM2.out; omega)⟩))⟩
      case measure => simp [intOf]
    · have hz2 : ¬ (m2 : Int) + (n3 : Int) < 0 := by omega
      have ew : IntKind.i64.wrap ((m2 : Int) + (n3 : Int)) = (m2 : Int) + (n3 : Int) := IntWalk.i64_in _ (by omega)
      go_wp2_with fail
      go_roundw
      case rel => exact ⟨trivial, .inr (.inr (.inr ⟨rfl, val_int (by have := HM2.out; have := HM3.out; omega)⟩))⟩
      case measure => simp [intOf]
    · go_wp2_with fail
      refine (grow_nil m3 w (by omega)).mono ?_
      rintro e W1 ⟨v, rfl, o1, q1⟩
      clear k0 k1 k2
      go_wp2_with fail
      go_loopw [6, 27] (fun v k wr => ∃ ys, Own wr w.heap.size v ys ∧ Ext w wr ∧ ((k = .int .i64 0 ∧ ys = []) ∨ (k = .int .i64 1 ∧ ys = x1) ∨ (k = .int .i64 2 ∧ ys = x1 ++ x2) ∨ (k = .int .i64 3 ∧ ys = x1 ++ x2 ++ x3))) (fun _ k _ => 3 - (intOf k).toNat)
      case atStart => exact ⟨[], o1, q1, .inl ⟨rfl, rfl⟩⟩
      case round =>
        obtain ⟨ys, oy, qy, hk⟩ := hrel
        have KW := HK.out.ext qy
        have j0 : wr.cell? ⟨g, 0, none⟩ = some (.slice a1 n1 c1) := KW.cells 0
        have j1 : wr.cell? ⟨g, 1, none⟩ = some (.slice a2 n2 c2) := KW.cells 1
        have j2 : wr.cell? ⟨g, 2, none⟩ = some (.slice a3 n3 c3) := KW.cells 2
        clear KW
        rcases hk with ⟨rfl, rfl⟩ | ⟨rfl, rfl⟩ | ⟨rfl, rfl⟩ | ⟨rfl, rfl⟩
        · go_wp2_with (at_builtin; refine Halt.out ?_)
          refine Halt.mk ?_
          refine app rfl _ _ rfl w.heap.size _ [] rfl oy _ n1 c1 x1 rfl (H1.out.ext qy) (by simp; omega) qy.size ?_
          intro v' w' o' b'
          clear j0 j1 j2
          go_wp2_with fail
          go_roundw
          case rel => exact ⟨x1, o', Below.trans qy b', .inr (.inl ⟨rfl, rfl⟩)⟩
          case measure => simp [intOf]
        · go_wp2_with (at_builtin; refine Halt.out ?_)
          refine Halt.mk ?_
          refine app rfl _ _ rfl w.heap.size _ _ rfl oy _ n2 c2 x2 rfl (H2.out.ext qy) (by rw [H1.out.len]; omega) qy.size ?_
          intro v' w' o' b'
          clear j0 j1 j2
          go_wp2_with fail
          go_roundw
          case rel => exact ⟨_, o', Below.trans qy b', .inr (.inr (.inl ⟨rfl, rfl⟩))⟩
          case measure => simp [intOf]
        · go_wp2_with (at_builtin; refine Halt.out ?_)
          refine Halt.mk ?_
          refine app rfl _ _ rfl w.heap.size _ _ rfl oy _ n3 c3 x3 rfl (H3.out.ext qy) (by rw [List.length_append, H1.out.len, H2.out.len]; omega) qy.size ?_
          intro v' w' o' b'
          clear j0 j1 j2
          go_wp2_with fail
          go_roundw
          case rel => exact ⟨_, o', Below.trans qy b', .inr (.inr (.inr ⟨rfl, rfl⟩))⟩
          case measure => simp [intOf]
        · clear j0 j1 j2
          go_wp2_with fail
          go_ret
          exact ⟨_, rfl, oy, qy⟩

set_option maxRecDepth 100000 in
set_option maxHeartbeats 2000000 in
theorem over_any (a1 : Option Addr) (n1 c1 : Nat) (x1 : List Int) (a2 : Option Addr) (n2 c2 : Nat) (x2 : List Int) (k n : Int) (w : World) (h1 : Ints .u8 w a1 n1 x1) (h2 : Ints .u8 w a2 n2 x2) (b1 : Pl.IsB x1) (b2 : Pl.IsB x2) (hn : n1 + n2 ≤ 100) :
    Calls Try.prog 50 #[.slice a1 n1 c1, .slice a2 n2 c2, .int .i64 k, .int .i64 n] w fun e w' =>
      e = .returned (.tuple #[.int .i64 (bO (okO k n) (Pl.fold (Pl.raw 0 (x1 ++ x2 ++ Pl.two [k, n])))), erv (eO (okO k n))]) ∧ Ext w w' := by
  have H1 := Lib.hid h1
  have H2 := Lib.hid h2
  have HB1 := Lib.hid b1
  have HB2 := Lib.hid b2
  clear h1 h2 b1 b2
  by_cases hk : 0 ≤ k ∧ k ≤ 255
  case neg =>
    have ho : okO k n = false := by
      cases h : w8 k
      · unfold okO; rw [h]; rfl
      · exact absurd (w8_yes h) hk
    rw [ho]
    clear ho
    by_cases hk0 : k < 0
    · clear hk
      go_enter Try.func50, Try.ntmps50
      go_wp2_with fail
      go_ret2
      exact ⟨rfl, Ext.refl _⟩
    · have hk1 : 255 < k := by omega
      clear hk
      go_enter Try.func50, Try.ntmps50
      go_wp2_with fail
      go_ret2
      exact ⟨rfl, Ext.refl _⟩
  obtain ⟨k0, k1⟩ := hk
  have hw8 : w8 k = true := by unfold w8; simp [k0, k1]
  by_cases g0 : 0 ≤ n
  case neg =>
    have ho : okO k n = false := by unfold okO; simp [g0]
    rw [ho]
    clear ho hw8
    go_enter Try.func50, Try.ntmps50
    go_wp2_with fail
    go_ret2
    exact ⟨rfl, Ext.refl _⟩
  by_cases g1 : n ≤ 320
  case neg =>
    have ho : okO k n = false := by unfold okO; simp [g1]
    rw [ho]
    clear ho hw8
    go_enter Try.func50, Try.ntmps50
    go_wp2_with fail
    go_ret2
    exact ⟨rfl, Ext.refl _⟩
  have ho : okO k n = true := by unfold okO; rw [hw8]; simp [g0, g1]
  rw [ho]
  have htwo : Pl.two [k, n] = [0, k, n / 256, n % 256] := by
    simp [Pl.two]
    omega
  rw [htwo]
  have e1 : IntKind.u8.wrap k = k := IntWalk.u8_in _ (by omega)
  have e2 : IntKind.u8.wrap (n / 256) = n / 256 := IntWalk.u8_in _ (by omega)
  have e3 : IntKind.u8.wrap n = n % 256 := by rw [IntKind.wrap_u8]
  clear ho hw8 htwo
  go_enter Try.func50, Try.ntmps50
  go_wp2_with fail
  refine (concat3 (w.heap.size + 1) a1 n1 c1 x1 a2 n2 c2 x2 (some ⟨w.heap.size, 0, none⟩) 4 4 [0, k, n / 256, n % 256] _ (Blk.at _ _ _ (by simp)) (H1.out.ext (((Ext.refl w).alloc _).alloc _)) (H2.out.ext (((Ext.refl w).alloc _).alloc _)) ((ints_new w _ _ _ _ _ rfl).ext ((Ext.refl _).alloc _)) (by omega)).mono ?_
  rintro e W1 ⟨v, rfl, o1, q1⟩
  have E1 : Ext w W1 := (((Ext.refl w).alloc _).alloc _).trans q1
  obtain ⟨a3, n3, c3, rfl, _, r3⟩ := o1.read
  have hn3 : n3 ≤ 65536 := by rw [← r3.len, List.length_append, List.length_append, H1.out.len, H2.out.len]; simp; omega
  clear o1 q1
  go_wp2_with fail
  refine (raw_any a3 n3 c3 _ W1 r3 ((HB1.out.append HB2.out).append (fun x hx => by simp only [List.mem_cons, List.not_mem_nil, or_false] at hx; rcases hx with rfl | rfl | rfl | rfl <;> omega)) hn3).mono ?_
  rintro e w' ⟨rfl, rfl⟩
  go_wp2_with fail
  go_ret2
  refine ⟨?_, E1⟩
  rw [List.append_assoc]
  rfl
end Go.Proofs.Ytoaahiclmodcgaa
