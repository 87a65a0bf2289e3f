/- The document's Decoded6. Conditions: as each theorem states them. -/
import Derived.Test.YtlgdmipejgggkaaDoorRef6
import Derived.Test.YtlgdmipejgggkaaDoorRef6s
import Derived.Test.YtlgdmipejgggkaaDoorIp6k
import Derived.Test.YtlgdmipejgggkaaDoorSlice
namespace Go.Proofs.YtlgdmipejgggkaaDoor
open Go.RowKit
theorem Ext.drawn {a b w : World} (h : Ext a b) (e : ∃ q, w = b.drewN q) : Ext a w ∧ Ext b w := by
  obtain ⟨q, rfl⟩ := e
  exact ⟨h.drewN q, (Ext.refl b).drewN q⟩
theorem sto6l {w : World} {R : Nat} (k : Blk w R 39 #[.int .i64 0, .int .i64 0, .int .i64 0, .int .i64 0, .int .i64 0, .int .i64 0, .int .i64 0, .int .i64 0, .int .i64 0, .int .i64 0, .int .i64 0, .int .i64 0, .int .i64 0, .int .i64 0, .int .i64 0, .int .i64 0, .int .i64 0, .int .i64 0, .slice none 0 0]) (p : P6) (a : Option Addr) (n c : Nat) :
    (Instr.storeAt 39 (.pointer (some ⟨R, 0, none⟩)) (.agg (p.cells (.slice a n c)))).run Tryd.prog w = .ok () (w.setRow R (p.cells (.slice a n c))) := k.store rfl Tryd.sizeP6 (p.one a n c)

/-- What Decoded6 gives of bytes that are no packet. -/
def RBad6 (e : Ending) : Prop := e = .returned (.tuple #[.agg #[.int .i64 0, .int .i64 0, .int .i64 0, .int .i64 0, .int .i64 0, .int .i64 0, .int .i64 0, .int .i64 0, .int .i64 0, .int .i64 0, .int .i64 0, .int .i64 0, .int .i64 0, .int .i64 0, .int .i64 0, .int .i64 0, .int .i64 0, .int .i64 0, .slice none 0 0], .int .i64 5])

set_option maxRecDepth 100000 in
set_option maxHeartbeats 2000000 in
theorem decoded6_bad (a : Option Addr) (n c : Nat) (xs : List Int) (w : World) (hr : Ints .u8 w a n xs) (hb : Pl.IsB xs) (h : ¬ Pl.Is6 xs) :
    Calls Tryd.prog 20 #[.slice a n c] w fun e w' => RBad6 e ∧ Ext w w' := by
  have KR := Blk.new w 39 #[.int .i64 0, .int .i64 0, .int .i64 0, .int .i64 0, .int .i64 0, .int .i64 0, .int .i64 0, .int .i64 0, .int .i64 0, .int .i64 0, .int .i64 0, .int .i64 0, .int .i64 0, .int .i64 0, .int .i64 0, .int .i64 0, .int .i64 0, .int .i64 0, .slice none 0 0]
  have E0 : Ext w (w.alloc (.cells #[.int .i64 0, .int .i64 0, .int .i64 0, .int .i64 0, .int .i64 0, .int .i64 0, .int .i64 0, .int .i64 0, .int .i64 0, .int .i64 0, .int .i64 0, .int .i64 0, .int .i64 0, .int .i64 0, .int .i64 0, .int .i64 0, .int .i64 0, .int .i64 0, .slice none 0 0] 39)) := (Ext.refl w).alloc _
  have hlen := hr.len
  by_cases g0 : n < 40
  case pos =>
    have g0' : (n : Int) < 40 := by omega
    have s0 := sto60 KR
    clear h
    go_enter Tryd.func20, Tryd.ntmps20
    go_wp2_with ((apply store_by rfl _ _ _ rfl _ rfl); (focus (with_reducible assumption)); (focus rfl))
    refine bodyPost_ret (results_cell2 Tryd.results20 _ _ w.heap.size 39 #[.int .i64 0, .int .i64 0, .int .i64 0, .int .i64 0, .int .i64 0, .int .i64 0, .int .i64 0, .int .i64 0, .int .i64 0, .int .i64 0, .int .i64 0, .int .i64 0, .int .i64 0, .int .i64 0, .int .i64 0, .int .i64 0, .int .i64 0, .int .i64 0, .slice none 0 0] _ rfl (KR.row _) Tryd.underlying39 rfl Tryd.sizeP6) rfl ⟨rfl, E0.row (Nat.le_refl _) _⟩
  have g0' : ¬ (n : Int) < 40 := by omega
  by_cases g1 : 360 < n
  case pos =>
    have g1' : (360 : Int) < (n : Int) := by omega
    have s0 := sto60 KR
    clear h
    go_enter Tryd.func20, Tryd.ntmps20
    go_wp2_with ((apply store_by rfl _ _ _ rfl _ rfl); (focus (with_reducible assumption)); (focus rfl))
    refine bodyPost_ret (results_cell2 Tryd.results20 _ _ w.heap.size 39 #[.int .i64 0, .int .i64 0, .int .i64 0, .int .i64 0, .int .i64 0, .int .i64 0, .int .i64 0, .int .i64 0, .int .i64 0, .int .i64 0, .int .i64 0, .int .i64 0, .int .i64 0, .int .i64 0, .int .i64 0, .int .i64 0, .int .i64 0, .int .i64 0, .slice none 0 0] _ rfl (KR.row _) Tryd.underlying39 rfl Tryd.sizeP6) rfl ⟨rfl, E0.row (Nat.le_refl _) _⟩
  have g1' : ¬ (360 : Int) < (n : Int) := by omega
  obtain ⟨b, off, rfl, hbl, hc⟩ := hr.at (by omega)
  have HC := fun (W : World) (q : Ext w W) j (hj : j < n) => (World.cell?_of_block (a := ⟨b, off + j, none⟩) (Below.block q b hbl)).trans (hc j hj)
  have x0 := hb.getD 0
  have x1 := hb.getD 1
  have x2 := hb.getD 2
  have x3 := hb.getD 3
  have x4 := hb.getD 4
  have x5 := hb.getD 5
  have W0 := Lib.hid (fun (W : World) (q : Ext w W) => rword_any b off n c 0 0 rfl (xs.getD 0 0) (xs.getD 1 0) W (by omega) (by omega) (HC W q 0 (by omega)) (HC W q 1 (by omega)) x0 x1)
  have W2 := Lib.hid (fun (W : World) (q : Ext w W) => rword_any b off n c 2 2 rfl (xs.getD 2 0) (xs.getD 3 0) W (by omega) (by omega) (HC W q 2 (by omega)) (HC W q 3 (by omega)) x2 x3)
  have W4 := Lib.hid (fun (W : World) (q : Ext w W) => rword_any b off n c 4 4 rfl (xs.getD 4 0) (xs.getD 5 0) W (by omega) (by omega) (HC W q 4 (by omega)) (HC W q 5 (by omega)) x4 x5)
  have hnot : ¬ (xs.getD 0 0 = 96 ∧ (xs.getD 1 0 = 0 ∧ xs.getD 2 0 = 0 ∧ xs.getD 3 0 = 0) ∧ xs.getD 4 0 * 256 + xs.getD 5 0 = (n : Int) - 40) := fun hh => h ⟨by rw [hlen]; omega, hh.1, hh.2.1, by rw [hh.2.2, hlen]⟩
  generalize xs.getD 0 0 = X0 at *
  generalize xs.getD 1 0 = X1 at *
  generalize xs.getD 2 0 = X2 at *
  generalize xs.getD 3 0 = X3 at *
  generalize xs.getD 4 0 = X4 at *
  generalize xs.getD 5 0 = X5 at *
  have hnot2 : X0 * 256 + X1 = 24576 → X2 * 256 + X3 = 0 → ¬ X4 * 256 + X5 = (n : Int) - 40 := fun h1 h2 h3 => hnot ⟨by omega, by omega, h3⟩
  have HN := Lib.hid hnot2
  have ew7 : IntKind.i64.wrap ((n : Int) - 40) = (n : Int) - 40 := IntWalk.i64_in _ (by omega)
  clear hc HC h hnot hnot2 hr hb x0 x1 x2 x3 x4 x5
  generalize X0 * 256 + X1 = V0 at *
  generalize X2 * 256 + X3 = V2 at *
  generalize X4 * 256 + X5 = V4 at *
  by_cases h0 : V0 = 24576
  case neg =>
    have h0' : (V0 != 24576) = true := by simpa using h0
    clear h0
    go_enter Tryd.func20, Tryd.ntmps20
    go_wp2_with fail
    refine (W0.out _ E0).mono ?_
    rintro e Wa ⟨rfl, qa⟩
    obtain ⟨Ea, Fa⟩ := E0.drawn qa
    have Ka := KR.ext Fa
    have s0 := sto60 Ka
    go_wp2_with ((apply store_by rfl _ _ _ rfl _ rfl); (focus (with_reducible assumption)); (focus rfl))
    refine bodyPost_ret (results_cell2 Tryd.results20 _ _ w.heap.size 39 #[.int .i64 0, .int .i64 0, .int .i64 0, .int .i64 0, .int .i64 0, .int .i64 0, .int .i64 0, .int .i64 0, .int .i64 0, .int .i64 0, .int .i64 0, .int .i64 0, .int .i64 0, .int .i64 0, .int .i64 0, .int .i64 0, .int .i64 0, .int .i64 0, .slice none 0 0] _ rfl (Ka.row _) Tryd.underlying39 rfl Tryd.sizeP6) rfl ⟨rfl, Ea.row (Nat.le_refl _) _⟩
  have h0' : (V0 != 24576) = false := by simpa using h0
  by_cases h2 : V2 = 0
  case neg =>
    have h2' : (V2 != 0) = true := by simpa using h2
    clear h0 h2
    go_enter Tryd.func20, Tryd.ntmps20
    go_wp2_with fail
    refine (W0.out _ E0).mono ?_
    rintro e Wa ⟨rfl, qa⟩
    obtain ⟨Ea, Fa⟩ := E0.drawn qa
    have Ka := KR.ext Fa
    go_wp2_with fail
    refine (W2.out _ Ea).mono ?_
    rintro e Wb ⟨rfl, qb⟩
    obtain ⟨Eb, Fb⟩ := Ea.drawn qb
    have Kb := Ka.ext Fb
    have s0 := sto60 Kb
    go_wp2_with ((apply store_by rfl _ _ _ rfl _ rfl); (focus (with_reducible assumption)); (focus rfl))
    refine bodyPost_ret (results_cell2 Tryd.results20 _ _ w.heap.size 39 #[.int .i64 0, .int .i64 0, .int .i64 0, .int .i64 0, .int .i64 0, .int .i64 0, .int .i64 0, .int .i64 0, .int .i64 0, .int .i64 0, .int .i64 0, .int .i64 0, .int .i64 0, .int .i64 0, .int .i64 0, .int .i64 0, .int .i64 0, .int .i64 0, .slice none 0 0] _ rfl (Kb.row _) Tryd.underlying39 rfl Tryd.sizeP6) rfl ⟨rfl, Eb.row (Nat.le_refl _) _⟩
  have h2' : (V2 != 0) = false := by simpa using h2
  have h4' : (V4 != (n : Int) - 40) = true := by rw [bne_iff_ne]; exact HN.out h0 h2
  clear h0 h2
  go_enter Tryd.func20, Tryd.ntmps20
  go_wp2_with fail
  refine (W0.out _ E0).mono ?_
  rintro e Wa ⟨rfl, qa⟩
  obtain ⟨Ea, Fa⟩ := E0.drawn qa
  have Ka := KR.ext Fa
  go_wp2_with fail
  refine (W2.out _ Ea).mono ?_
  rintro e Wb ⟨rfl, qb⟩
  obtain ⟨Eb, Fb⟩ := Ea.drawn qb
  have Kb := Ka.ext Fb
  go_wp2_with fail
  refine (W4.out _ Eb).mono ?_
  rintro e Wc ⟨rfl, qc⟩
  obtain ⟨Ec, Fc⟩ := Eb.drawn qc
  have Kc := Kb.ext Fc
  have s0 := sto60 Kc
  go_wp2_with ((apply store_by rfl _ _ _ rfl _ rfl); (focus (with_reducible assumption)); (focus rfl))
  refine bodyPost_ret (results_cell2 Tryd.results20 _ _ w.heap.size 39 #[.int .i64 0, .int .i64 0, .int .i64 0, .int .i64 0, .int .i64 0, .int .i64 0, .int .i64 0, .int .i64 0, .int .i64 0, .int .i64 0, .int .i64 0, .int .i64 0, .int .i64 0, .int .i64 0, .int .i64 0, .int .i64 0, .int .i64 0, .int .i64 0, .slice none 0 0] _ rfl (Kc.row _) Tryd.underlying39 rfl Tryd.sizeP6) rfl ⟨rfl, Ec.row (Nat.le_refl _) _⟩

set_option maxRecDepth 100000 in
set_option maxHeartbeats 2000000 in
theorem decoded6_ok (a : Option Addr) (n c : Nat) (xs : List Int) (w : World) (hr : Ints .u8 w a n xs) (hb : Pl.IsB xs) (hnc : n ≤ c) (h : Pl.Is6 xs) :
    Calls Tryd.prog 20 #[.slice a n c] w fun e w' => ∃ a' n' c', e = .returned (.tuple #[.agg ((Pl.dec6 xs).cells (.slice a' n' c')), .int .i64 0]) ∧ Ints .u8 w' a' n' (xs.drop 40) ∧ Ext w w' := by
  have KR := Blk.new w 39 #[.int .i64 0, .int .i64 0, .int .i64 0, .int .i64 0, .int .i64 0, .int .i64 0, .int .i64 0, .int .i64 0, .int .i64 0, .int .i64 0, .int .i64 0, .int .i64 0, .int .i64 0, .int .i64 0, .int .i64 0, .int .i64 0, .int .i64 0, .int .i64 0, .slice none 0 0]
  have E0 : Ext w (w.alloc (.cells #[.int .i64 0, .int .i64 0, .int .i64 0, .int .i64 0, .int .i64 0, .int .i64 0, .int .i64 0, .int .i64 0, .int .i64 0, .int .i64 0, .int .i64 0, .int .i64 0, .int .i64 0, .int .i64 0, .int .i64 0, .int .i64 0, .int .i64 0, .int .i64 0, .slice none 0 0] 39)) := (Ext.refl w).alloc _
  have hlen := hr.len
  unfold Pl.Is6 at h
  rw [hlen] at h
  obtain ⟨⟨n0, n1⟩, y0, ⟨y1, y2, y3⟩, y5⟩ := h
  have g0' : ¬ (n : Int) < 40 := by omega
  have g1' : ¬ (360 : Int) < (n : Int) := by omega
  obtain ⟨b, off, rfl, hbl, hc⟩ := hr.at (by omega)
  have HC := fun (W : World) (q : Ext w W) j (hj : j < n) => (World.cell?_of_block (a := ⟨b, off + j, none⟩) (Below.block q b hbl)).trans (hc j hj)
  have W0 := Lib.hid (fun (W : World) (q : Ext w W) => rword_any b off n c 0 0 rfl (xs.getD 0 0) (xs.getD 1 0) W (by omega) (by omega) (HC W q 0 (by omega)) (HC W q 1 (by omega)) (hb.getD 0) (hb.getD 1))
  have W2 := Lib.hid (fun (W : World) (q : Ext w W) => rword_any b off n c 2 2 rfl (xs.getD 2 0) (xs.getD 3 0) W (by omega) (by omega) (HC W q 2 (by omega)) (HC W q 3 (by omega)) (hb.getD 2) (hb.getD 3))
  have W4 := Lib.hid (fun (W : World) (q : Ext w W) => rword_any b off n c 4 4 rfl (xs.getD 4 0) (xs.getD 5 0) W (by omega) (by omega) (HC W q 4 (by omega)) (HC W q 5 (by omega)) (hb.getD 4) (hb.getD 5))
  have e0 : xs.getD 0 0 * 256 + xs.getD 1 0 = 24576 := by rw [y0, y1]; rfl
  have e2 : xs.getD 2 0 * 256 + xs.getD 3 0 = 0 := by rw [y2, y3]; rfl
  rw [e0] at W0
  rw [e2] at W2
  rw [y5] at W4
  have x6 := hb.getD 6
  have x7 := hb.getD 7
  have G6 := Lib.hid (fun (W : World) (q : Ext w W) => HC W q 6 (by omega))
  have G7 := Lib.hid (fun (W : World) (q : Ext w W) => HC W q 7 (by omega))
  have hd6 : Pl.dec6 xs = ⟨sixAt (xs.drop 8), sixAt (xs.drop 24), xs.getD 7 0, xs.getD 6 0⟩ := rfl
  obtain ⟨A8, z8, i8, _, hz8, r8⟩ := slice_bytes (some ⟨b, off, none⟩) n c 8 16 8 24 rfl rfl (by omega) hnc (fun h => by cases h)
  obtain ⟨A24, z24, i24, _, hz24, r24⟩ := slice_bytes (some ⟨b, off, none⟩) n c 24 16 24 40 rfl rfl (by omega) hnc (fun h => by cases h)
  obtain ⟨A40, i40, z40, r40⟩ := slice_tail (some ⟨b, off, none⟩) n c 40 40 rfl (by omega) hnc (fun h => by cases h)
  obtain ⟨b8, f8, rfl, _, _⟩ := (i8 w xs hr).at (by omega)
  obtain ⟨b24, f24, rfl, _, _⟩ := (i24 w xs hr).at (by omega)
  have HOF8 := (fun (W : World) (q : Ext w W) => rsixAt_any b8 f8 16 z8 ((xs.drop 8).take 16) W ((i8 w xs hr).ext q) ((hb.drop 8).take 16) (by omega))
  have HOF24 := (fun (W : World) (q : Ext w W) => rsixAt_any b24 f24 16 z24 ((xs.drop 24).take 16) W ((i24 w xs hr).ext q) ((hb.drop 24).take 16) (by omega))
  rw [sixAt_take] at HOF8 HOF24
  have HOF8 := Lib.hid HOF8
  have HOF24 := Lib.hid HOF24
  have I40 := Lib.hid (fun (W : World) (q : Ext w W) => (i40 w xs hr).ext q)
  generalize sixAt (xs.drop 8) = S8 at *
  generalize sixAt (xs.drop 24) = S24 at *
  generalize xs.getD 7 0 = X7 at *
  generalize xs.getD 6 0 = X6 at *
  have HD6 := Lib.hid hd6
  have l6 : (6 : Int) < (n : Int) := by omega
  have l7 : (7 : Int) < (n : Int) := by omega
  have ew7 : IntKind.i64.wrap ((n : Int) - 40) = (n : Int) - 40 := IntWalk.i64_in _ (by omega)
  have ew8 : IntKind.i64.wrap X6 = X6 := IntWalk.i64_in _ (by omega)
  have ew9 : IntKind.i64.wrap X7 = X7 := IntWalk.i64_in _ (by omega)
  clear hc HC hr hb hlen y0 y1 y2 y3 y5 hd6 i8 i24 i40 z40 n1 e0 e2
  go_enter Tryd.func20, Tryd.ntmps20
  go_wp2_with fail
  refine (W0.out _ E0).mono ?_
  rintro e Wa ⟨rfl, qa⟩
  obtain ⟨Ea, Fa⟩ := E0.drawn qa
  have Ka := KR.ext Fa
  go_wp2_with fail
  refine (W2.out _ Ea).mono ?_
  rintro e Wb ⟨rfl, qb⟩
  obtain ⟨Eb, Fb⟩ := Ea.drawn qb
  have Kb := Ka.ext Fb
  go_wp2_with fail
  refine (W4.out _ Eb).mono ?_
  rintro e W1 ⟨rfl, qc⟩
  obtain ⟨E1, Fc⟩ := Eb.drawn qc
  have K1 := Kb.ext Fc
  clear E0 KR qa Ea Fa Ka qb Eb Fb Kb qc Fc
  go_upto_region 3 with (fail)
  have c6 := G6.out _ E1
  have c7 := G7.out _ E1
  have nb : ¬ b = w.heap.size := by omega
  refine wp_region_held_drew (S := (fun w' => w'.cell? ⟨b, off + 6, none⟩ = some (.int .u8 X6) ∧ w'.cell? ⟨b, off + 7, none⟩ = some (.int .u8 X7))) (by kernel_rfl) ⟨c6, c7⟩ (fun hS0 => ?_)
  (refine wpAnyH_take (i := 0) (v := ?_) rfl (by kernel_rfl) (by kernel_rfl) (by kernel_rfl) (fun _ _ _ h => h) (Or.inl ⟨by rfl, ?_⟩) (by assumption) ?_; rotate_left; focus (intro w hSw; (try dsimp only at hSw); go_simp; try with_reducible rfl); try simp only [Act.put, List.getElem_toArray, List.getElem_cons_succ, List.getElem_cons_zero, List.setIfInBounds_toArray, List.set_cons_zero, List.set_cons_succ])
  (refine wpAnyH_take (i := 1) (v := ?_) rfl (by kernel_rfl) (by kernel_rfl) (by kernel_rfl) (fun _ _ _ h => h) (Or.inl ⟨by rfl, ?_⟩) (by assumption) ?_; rotate_left; focus (intro w hSw; (try dsimp only at hSw); go_simp; try with_reducible rfl); try simp only [Act.put, List.getElem_toArray, List.getElem_cons_succ, List.getElem_cons_zero, List.setIfInBounds_toArray, List.set_cons_zero, List.set_cons_succ])
  (refine wpAnyH_take (i := 3) (v := ?_) rfl (by kernel_rfl) (by kernel_rfl) (by kernel_rfl) (fun _ _ _ h => h) (Or.inl ⟨by rfl, ?_⟩) (by assumption) ?_; rotate_left; focus (intro w hSw; (try dsimp only at hSw); go_simp; try with_reducible rfl); try simp only [Act.put, List.getElem_toArray, List.getElem_cons_succ, List.getElem_cons_zero, List.setIfInBounds_toArray, List.set_cons_zero, List.set_cons_succ])
  (refine wpAnyH_take (i := 4) (v := ?_) rfl (by kernel_rfl) (by kernel_rfl) (by kernel_rfl) (fun _ _ _ h => h) (Or.inl ⟨by rfl, ?_⟩) (by assumption) ?_; rotate_left; focus (intro w hSw; (try dsimp only at hSw); go_simp; try with_reducible rfl); try simp only [Act.put, List.getElem_toArray, List.getElem_cons_succ, List.getElem_cons_zero, List.setIfInBounds_toArray, List.set_cons_zero, List.set_cons_succ])
  (refine wpAnyH_take (i := 6) (v := ?_) rfl (by kernel_rfl) (by kernel_rfl) (by kernel_rfl) (fun _ _ _ h => h) (Or.inl ⟨by rfl, ?_⟩) (by assumption) ?_; rotate_left; focus (intro w hSw; (try dsimp only at hSw); go_simp; try with_reducible rfl); try simp only [Act.put, List.getElem_toArray, List.getElem_cons_succ, List.getElem_cons_zero, List.setIfInBounds_toArray, List.set_cons_zero, List.set_cons_succ])
  (refine wpAnyH_take (i := 7) (v := ?_) rfl (by kernel_rfl) (by kernel_rfl) (by kernel_rfl) (fun _ _ _ h => h) (Or.inl ⟨by rfl, ?_⟩) (by assumption) ?_; rotate_left; focus (intro w hSw; (try dsimp only at hSw); go_simp; try with_reducible rfl); try simp only [Act.put, List.getElem_toArray, List.getElem_cons_succ, List.getElem_cons_zero, List.setIfInBounds_toArray, List.set_cons_zero, List.set_cons_succ])
  (refine wpAnyH_take (i := 8) (v := ?_) rfl (by kernel_rfl) (by kernel_rfl) (by kernel_rfl) (fun _ _ _ h => h) (Or.inl ⟨by rfl, ?_⟩) (by assumption) ?_; rotate_left; focus (intro w hSw; (try dsimp only at hSw); go_simp; try with_reducible rfl); try simp only [Act.put, List.getElem_toArray, List.getElem_cons_succ, List.getElem_cons_zero, List.setIfInBounds_toArray, List.set_cons_zero, List.set_cons_succ])
  (refine wpAnyH_take (i := 9) (v := ?_) rfl (by kernel_rfl) (by kernel_rfl) (by kernel_rfl) (fun _ _ _ h => h) (Or.inl ⟨by rfl, ?_⟩) (by assumption) ?_; rotate_left; focus (intro w hSw; (try dsimp only at hSw); go_simp; try with_reducible rfl); try simp only [Act.put, List.getElem_toArray, List.getElem_cons_succ, List.getElem_cons_zero, List.setIfInBounds_toArray, List.set_cons_zero, List.set_cons_succ])
  (refine wpAnyH_take (i := 10) (v := ?_) rfl (by kernel_rfl) (by kernel_rfl) (by kernel_rfl) (fun _ _ _ h => h) (Or.inl ⟨by rfl, ?_⟩) (by assumption) ?_; rotate_left; focus (intro w hSw; (try dsimp only at hSw); go_simp; try with_reducible rfl); try simp only [Act.put, List.getElem_toArray, List.getElem_cons_succ, List.getElem_cons_zero, List.setIfInBounds_toArray, List.set_cons_zero, List.set_cons_succ])
  (refine wpAnyH_take (i := 11) (v := ?_) rfl (by kernel_rfl) (by kernel_rfl) (by kernel_rfl) (fun _ _ _ h => h) (Or.inl ⟨by rfl, ?_⟩) (by assumption) ?_; rotate_left; focus (intro w hSw; (try dsimp only at hSw); go_simp; try with_reducible rfl); try simp only [Act.put, List.getElem_toArray, List.getElem_cons_succ, List.getElem_cons_zero, List.setIfInBounds_toArray, List.set_cons_zero, List.set_cons_succ])
  (refine wpAnyH_take (i := 12) (v := ?_) rfl (by kernel_rfl) (by kernel_rfl) (by kernel_rfl) (fun _ _ _ h => h) (Or.inl ⟨by rfl, ?_⟩) (by assumption) ?_; rotate_left; focus (intro w hSw; (try dsimp only at hSw); go_simp; try with_reducible rfl); try simp only [Act.put, List.getElem_toArray, List.getElem_cons_succ, List.getElem_cons_zero, List.setIfInBounds_toArray, List.set_cons_zero, List.set_cons_succ])
  (refine wpAnyH_take (i := 13) (v := ?_) rfl (by kernel_rfl) (by kernel_rfl) (by kernel_rfl) (fun _ _ _ h => h) (Or.inl ⟨by rfl, ?_⟩) (by assumption) ?_; rotate_left; focus (intro w hSw; (try dsimp only at hSw); go_simp; try with_reducible rfl); try simp only [Act.put, List.getElem_toArray, List.getElem_cons_succ, List.getElem_cons_zero, List.setIfInBounds_toArray, List.set_cons_zero, List.set_cons_succ])
  (refine wpAnyH_take (i := 14) (v := ?_) rfl (by kernel_rfl) (by kernel_rfl) (by kernel_rfl) (fun _ _ _ h => h) (Or.inl ⟨by rfl, ?_⟩) (by assumption) ?_; rotate_left; focus (intro w hSw; (try dsimp only at hSw); go_simp; try with_reducible rfl); try simp only [Act.put, List.getElem_toArray, List.getElem_cons_succ, List.getElem_cons_zero, List.setIfInBounds_toArray, List.set_cons_zero, List.set_cons_succ])
  (refine wpAnyH_take (i := 15) (v := ?_) rfl (by kernel_rfl) (by kernel_rfl) (by kernel_rfl) (fun _ _ _ h => h) (Or.inl ⟨by rfl, ?_⟩) (by assumption) ?_; rotate_left; focus (intro w hSw; (try dsimp only at hSw); go_simp; try with_reducible rfl); try simp only [Act.put, List.getElem_toArray, List.getElem_cons_succ, List.getElem_cons_zero, List.setIfInBounds_toArray, List.set_cons_zero, List.set_cons_succ])
  (refine wpAnyH_ready (rs := [2]) (by kernel_rfl) (by simp) ?_; refine AllReadyH.cons rfl (fun K hK => ?_) AllReadyH.nil)
  go_simp
  go_at_call 46
  refine (HOF8.out _ E1.drew).mono ?_
  rintro e W3 ⟨rfl, q3⟩
  have E3 : Ext w W3 := E1.drew.trans q3
  have K3 : Blk W3 w.heap.size 39 #[.int .i64 0, .int .i64 0, .int .i64 0, .int .i64 0, .int .i64 0, .int .i64 0, .int .i64 0, .int .i64 0, .int .i64 0, .int .i64 0, .int .i64 0, .int .i64 0, .int .i64 0, .int .i64 0, .int .i64 0, .int .i64 0, .int .i64 0, .int .i64 0, .slice none 0 0] := (Blk.drew K1).ext q3
  unfold Six.v Six.cells
  refine hK.out _ _ ⟨G6.out _ E3, G7.out _ E3⟩ ?_
  clear hK K
  intro hS
  (try simp only [Act.put, List.getElem_toArray, List.getElem_cons_succ, List.getElem_cons_zero, List.setIfInBounds_toArray, List.set_cons_zero, List.set_cons_succ])
  (refine wpAnyH_ready (rs := [5]) (by kernel_rfl) (by simp) ?_; refine AllReadyH.cons rfl (fun K hK => ?_) AllReadyH.nil)
  go_simp
  go_at_call 46
  refine (HOF24.out _ E3).mono ?_
  rintro e W5 ⟨rfl, q5⟩
  have E5 : Ext w W5 := E3.trans q5
  have K5 : Blk W5 w.heap.size 39 #[.int .i64 0, .int .i64 0, .int .i64 0, .int .i64 0, .int .i64 0, .int .i64 0, .int .i64 0, .int .i64 0, .int .i64 0, .int .i64 0, .int .i64 0, .int .i64 0, .int .i64 0, .int .i64 0, .int .i64 0, .int .i64 0, .int .i64 0, .int .i64 0, .slice none 0 0] := K3.ext q5
  unfold Six.v Six.cells
  refine hK.out _ _ ⟨G6.out _ E5, G7.out _ E5⟩ ?_
  clear hK K
  intro hS
  (try simp only [Act.put, List.getElem_toArray, List.getElem_cons_succ, List.getElem_cons_zero, List.setIfInBounds_toArray, List.set_cons_zero, List.set_cons_succ])
  (refine wpAnyH_take (i := 16) (v := ?_) rfl (by kernel_rfl) (by kernel_rfl) (by kernel_rfl) (fun _ _ _ h => h) (Or.inl ⟨by rfl, ?_⟩) (by assumption) ?_; rotate_left; focus (intro w hSw; (try dsimp only at hSw); go_simp; try with_reducible rfl); try simp only [Act.put, List.getElem_toArray, List.getElem_cons_succ, List.getElem_cons_zero, List.setIfInBounds_toArray, List.set_cons_zero, List.set_cons_succ])
  (refine wpAnyH_ready (rs := [17]) (by kernel_rfl) (by simp) ?_; refine AllReadyH.cons rfl (fun K hK => ?_) AllReadyH.nil)
  rw [if_pos (by rfl)]
  refine wp_store_by _ _ _ rfl _ rfl (sto6 K5 ⟨S8, S24, X7, X6⟩ A40 (n - 40) (c - 40)) rfl ?_
  have hfar : ∀ j, (W5.setRow w.heap.size ((⟨S8, S24, X7, X6⟩ : P6).cells (.slice A40 (n - 40) (c - 40)))).cell? ⟨b, j, none⟩ = W5.cell? ⟨b, j, none⟩ := fun j => World.cell?_of_block (setRow_other _ _ _ _ nb)
  refine hK.out _ _ ⟨(hfar _).trans (G6.out _ E5), (hfar _).trans (G7.out _ E5)⟩ ?_
  clear hK K
  intro hS
  (try simp only [Act.put, List.getElem_toArray, List.getElem_cons_succ, List.getElem_cons_zero, List.setIfInBounds_toArray, List.set_cons_zero, List.set_cons_succ])
  (refine wpAnyH_take (i := 18) (v := ?_) rfl (by kernel_rfl) (by kernel_rfl) (by kernel_rfl) (fun _ _ _ h => h) (Or.inl ⟨by rfl, ?_⟩) (by assumption) ?_; rotate_left; focus (intro w hSw; (try dsimp only at hSw); go_simp; try with_reducible rfl); try simp only [Act.put, List.getElem_toArray, List.getElem_cons_succ, List.getElem_cons_zero, List.setIfInBounds_toArray, List.set_cons_zero, List.set_cons_succ])
  refine wpAnyH_done (by kernel_rfl) ?_ _
  have E8 := E5.row (Nat.le_refl _) ((⟨S8, S24, X7, X6⟩ : P6).cells (.slice A40 (n - 40) (c - 40)))
  have K8 := K5.row ((⟨S8, S24, X7, X6⟩ : P6).cells (.slice A40 (n - 40) (c - 40)))
  have HE8 := Lib.hid E8
  clear E8 hfar
  go_wp2_with fail
  refine bodyPost_ret (results_cell2 Tryd.results20 _ _ w.heap.size 39 ((⟨S8, S24, X7, X6⟩ : P6).cells (.slice A40 (n - 40) (c - 40))) _ rfl K8 Tryd.underlying39 rfl Tryd.sizeP6) rfl ⟨_, _, _, by rw [HD6.out]; rfl, I40.out _ HE8.out, HE8.out⟩
end Go.Proofs.YtlgdmipejgggkaaDoor
