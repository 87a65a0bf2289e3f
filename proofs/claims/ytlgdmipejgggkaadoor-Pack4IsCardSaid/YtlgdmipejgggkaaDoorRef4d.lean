/- The document's Decoded4. Conditions: as each theorem states them. -/
import Derived.Test.YtlgdmipejgggkaaDoorRef4p
import Derived.Test.YtlgdmipejgggkaaDoorTail
import Derived.Test.YtlgdmipejgggkaaDoorStore
import Derived.Laws.Tables
namespace Go.Proofs.YtlgdmipejgggkaaDoor
open Go.RowKit
theorem Ext.drawn4 {a b w : World} (h : Ext a b) (e : ∃ q, w = b.drewN q) : Ext a w ∧ Ext b w := by
  obtain ⟨q, rfl⟩ := e
  exact ⟨h.drewN q, (Ext.refl b).drewN q⟩
theorem Ext.drewN' {a b : World} (h : Ext a b) (q : Nat) : Ext a (b.drewN q) := h.drewN q
theorem Ext.drew' {a b : World} (h : Ext a b) : Ext a b.drew := h.drew
theorem Ext.alloc' {a b : World} (h : Ext a b) (o : Obj) : Ext a (b.alloc o) := h.alloc o
theorem drawn_size {b w : World} (e : ∃ q, w = b.drewN q) : w.heap.size = b.heap.size := by
  obtain ⟨q, rfl⟩ := e
  rfl
/-- At a store whose run is known, in a region. -/
theorem wp_store_by4 {P : Program} {o : Oper} {a : Act} {w : World} {K : Act → World → Prop} {Q : Exit → Act → World → Prop} (ty : TypeId) (x y : Operand) (ho : o.op = .store ty x y) (p : Addr) (hx : a.eval x = .pointer (some p)) {v : Value} {w' : World}
    (h : (Instr.storeAt ty (.pointer (some p)) v).run P w = .ok () w') (hy : a.eval y = v) (k : K (a.put o.dst undef) w') : Oper.wp P o a w K Q := by
  unfold Oper.wp execOp
  simp only [ho, hx, hy, Sem.run_bind, h, Result.andThen_ok, Sem.run_pure]
  exact k
theorem at_worldF {P : Program} {c : Code} {Q : Exit → Act → World → Prop} {a : Act} {W : World} (X : World → Prop) (h : X W) (k : ∀ W', X W' → c.wp P Q a W') : c.wp P Q a W := k W h
namespace Pl
/-- Have bytes a packet's shape? -/
def Shape4 (xs : List Int) : Prop := (20 ≤ xs.length ∧ xs.length ≤ 340) ∧ at2 xs 0 = 17664 ∧ at2 xs 2 = xs.length ∧ at2 xs 6 = 16384
end Pl
abbrev c4 (s d t k i : Int) (v : Value) : Array Value := #[.int .i64 s, .int .i64 d, .int .i64 t, .int .i64 k, .int .i64 i, v]
theorem Tryd.sizeP4 : (Tryd.prog.info? 54).map (·.size) = some 6 := by kernel_rfl
theorem Blk.p4 {w : World} {g : Nat} {t : TypeId} {s d tt k i : Int} {v : Value} (h : Blk w g t (c4 s d tt k i v)) : (Instr.loadAt 54 (.pointer (some ⟨g, 0, none⟩))).run Tryd.prog w = .ok (.agg (c4 s d tt k i v)) w := by
  have := run_loadAt_mid (P := Tryd.prog) w g 0 54 (c4 s d tt k i v).toList _ (fun j v hv => by
    rw [Array.getElem?_toList] at hv
    rw [h.cells, Nat.zero_add]; exact hv) Tryd.underlying54 rfl Tryd.sizeP4
  rw [Array.toArray_toList] at this
  exact this
theorem sto4 {w : World} {R : Nat} {ty : TypeId} {x0 x1 x2 x3 x4 : Int} {v0 : Value} (kb : Blk w R ty (c4 x0 x1 x2 x3 x4 v0)) (s d t k i : Int) (a : Option Addr) (n c : Nat) :
    (Instr.storeAt 54 (.pointer (some ⟨R, 0, none⟩)) (.agg #[.int .i64 s, .int .i64 d, .int .i64 t, .int .i64 k, .int .i64 i, .slice a n c])).run Tryd.prog w = .ok () (w.setRow R (c4 s d t k i (.slice a n c))) :=
  kb.store rfl Tryd.sizeP4 (by simp [Value.oneCell'])

set_option maxRecDepth 100000 in
set_option maxHeartbeats 1000000 in
theorem decoded4_shape (a : Option Addr) (n c : Nat) (xs : List Int) (w : World) (hr : Ints .u8 w a n xs) (hb : Pl.IsB xs) (h : ¬ Pl.Shape4 xs) :
    Calls Tryd.prog 28 #[.slice a n c] w fun e w' => e = .returned (.tuple #[pk4 0 0 0 0 0 (.slice none 0 0), .int .i64 5]) ∧ Ext w w' := by
  have KR := Blk.new w 54 (c4 0 0 0 0 0 (.slice none 0 0))
  have E0 : Ext w (w.alloc (.cells (c4 0 0 0 0 0 (.slice none 0 0)) 54)) := (Ext.refl w).alloc _
  have hlen := hr.len
  by_cases g0 : n < 20
  case pos =>
    have g0' : (n : Int) < 20 := by omega
    have s0 := sto4 KR 0 0 0 0 0 none 0 0
    clear h
    go_enter Tryd.func28, Tryd.ntmps28
    go_wp2_with ((apply store_by rfl _ _ _ rfl _ rfl); (focus (with_reducible assumption)); (focus rfl))
    refine bodyPost_ret (results_cell2 Tryd.results28 _ _ w.heap.size 54 (c4 0 0 0 0 0 (.slice none 0 0)) _ rfl (KR.row _) Tryd.underlying54 rfl Tryd.sizeP4) rfl ⟨rfl, E0.row (Nat.le_refl _) _⟩
  have g0' : ¬ (n : Int) < 20 := by omega
  by_cases g1 : 340 < n
  case pos =>
    have g1' : (340 : Int) < (n : Int) := by omega
    have s0 := sto4 KR 0 0 0 0 0 none 0 0
    clear h
    go_enter Tryd.func28, Tryd.ntmps28
    go_wp2_with ((apply store_by rfl _ _ _ rfl _ rfl); (focus (with_reducible assumption)); (focus rfl))
    refine bodyPost_ret (results_cell2 Tryd.results28 _ _ w.heap.size 54 (c4 0 0 0 0 0 (.slice none 0 0)) _ rfl (KR.row _) Tryd.underlying54 rfl Tryd.sizeP4) rfl ⟨rfl, E0.row (Nat.le_refl _) _⟩
  have g1' : ¬ (340 : Int) < (n : Int) := by omega
  obtain ⟨b, off, rfl, hbl, hc⟩ := hr.at (by omega)
  have HC := fun (W : World) (q : Ext w W) j (hj : j < n) => (World.cell?_of_block (a := ⟨b, off + j, none⟩) (Below.block q b hbl)).trans (hc j hj)
  have W0 := Lib.hid (fun (W : World) (q : Ext w W) => rword_any b off n c 0 0 rfl (xs.getD 0 0) (xs.getD 1 0) W (by omega) (by omega) (HC W q 0 (by omega)) (HC W q 1 (by omega)) (hb.getD 0) (hb.getD 1))
  have W2 := Lib.hid (fun (W : World) (q : Ext w W) => rword_any b off n c 2 2 rfl (xs.getD 2 0) (xs.getD 3 0) W (by omega) (by omega) (HC W q 2 (by omega)) (HC W q 3 (by omega)) (hb.getD 2) (hb.getD 3))
  have W6 := Lib.hid (fun (W : World) (q : Ext w W) => rword_any b off n c 6 6 rfl (xs.getD 6 0) (xs.getD 7 0) W (by omega) (by omega) (HC W q 6 (by omega)) (HC W q 7 (by omega)) (hb.getD 6) (hb.getD 7))
  have hnot : xs.getD 0 0 * 256 + xs.getD 1 0 = 17664 → xs.getD 2 0 * 256 + xs.getD 3 0 = (n : Int) → ¬ xs.getD 6 0 * 256 + xs.getD 7 0 = 16384 := fun h1 h2 h3 => h ⟨by rw [hlen]; omega, h1, by rw [hlen]; exact h2, h3⟩
  clear hc HC h hr hb
  generalize xs.getD 0 0 * 256 + xs.getD 1 0 = V0 at *
  generalize xs.getD 2 0 * 256 + xs.getD 3 0 = V2 at *
  generalize xs.getD 6 0 * 256 + xs.getD 7 0 = V6 at *
  have HN := Lib.hid hnot
  clear hnot
  by_cases h0 : V0 = 17664
  case neg =>
    have h0' : (V0 != 17664) = true := by simpa using h0
    clear h0
    go_enter Tryd.func28, Tryd.ntmps28
    go_wp2_with fail
    refine (W0.out _ E0).mono ?_
    rintro e Wa ⟨rfl, qa⟩
    obtain ⟨Ea, Fa⟩ := E0.drawn4 qa
    have Ka := KR.ext Fa
    have s0 := sto4 Ka 0 0 0 0 0 none 0 0
    go_wp2_with ((apply store_by rfl _ _ _ rfl _ rfl); (focus (with_reducible assumption)); (focus rfl))
    refine bodyPost_ret (results_cell2 Tryd.results28 _ _ w.heap.size 54 (c4 0 0 0 0 0 (.slice none 0 0)) _ rfl (Ka.row _) Tryd.underlying54 rfl Tryd.sizeP4) rfl ⟨rfl, Ea.row (Nat.le_refl _) _⟩
  have h0' : (V0 != 17664) = false := by simpa using h0
  by_cases h2 : V2 = (n : Int)
  case neg =>
    have h2' : (V2 != (n : Int)) = true := by simpa using h2
    clear h0 h2
    go_enter Tryd.func28, Tryd.ntmps28
    go_wp2_with fail
    refine (W0.out _ E0).mono ?_
    rintro e Wa ⟨rfl, qa⟩
    obtain ⟨Ea, Fa⟩ := E0.drawn4 qa
    have Ka := KR.ext Fa
    go_wp2_with fail
    refine (W2.out _ Ea).mono ?_
    rintro e Wb ⟨rfl, qb⟩
    obtain ⟨Eb, Fb⟩ := Ea.drawn4 qb
    have Kb := Ka.ext Fb
    have s0 := sto4 Kb 0 0 0 0 0 none 0 0
    go_wp2_with ((apply store_by rfl _ _ _ rfl _ rfl); (focus (with_reducible assumption)); (focus rfl))
    refine bodyPost_ret (results_cell2 Tryd.results28 _ _ w.heap.size 54 (c4 0 0 0 0 0 (.slice none 0 0)) _ rfl (Kb.row _) Tryd.underlying54 rfl Tryd.sizeP4) rfl ⟨rfl, Eb.row (Nat.le_refl _) _⟩
  have h2' : (V2 != (n : Int)) = false := by simpa using h2
  have h6' : (V6 != 16384) = true := by rw [bne_iff_ne]; exact HN.out h0 h2
  clear h0 h2
  go_enter Tryd.func28, Tryd.ntmps28
  go_wp2_with fail
  refine (W0.out _ E0).mono ?_
  rintro e Wa ⟨rfl, qa⟩
  obtain ⟨Ea, Fa⟩ := E0.drawn4 qa
  have Ka := KR.ext Fa
  go_wp2_with fail
  refine (W2.out _ Ea).mono ?_
  rintro e Wb ⟨rfl, qb⟩
  obtain ⟨Eb, Fb⟩ := Ea.drawn4 qb
  have Kb := Ka.ext Fb
  go_wp2_with fail
  refine (W6.out _ Eb).mono ?_
  rintro e Wc ⟨rfl, qc⟩
  obtain ⟨Ec, Fc⟩ := Eb.drawn4 qc
  have Kc := Kb.ext Fc
  have s0 := sto4 Kc 0 0 0 0 0 none 0 0
  go_wp2_with ((apply store_by rfl _ _ _ rfl _ rfl); (focus (with_reducible assumption)); (focus rfl))
  refine bodyPost_ret (results_cell2 Tryd.results28 _ _ w.heap.size 54 (c4 0 0 0 0 0 (.slice none 0 0)) _ rfl (Kc.row _) Tryd.underlying54 rfl Tryd.sizeP4) rfl ⟨rfl, Ec.row (Nat.le_refl _) _⟩

set_option maxRecDepth 100000 in
set_option maxHeartbeats 2000000 in
theorem decoded4_core (a : Option Addr) (n c : Nat) (xs : List Int) (w : World) (hr : Ints .u8 w a n xs) (hb : Pl.IsB xs) (hnc : n ≤ c) (h : Pl.Shape4 xs) (S D T K I : Int)
    (hS : Pl.at4 xs 12 = S) (hD : Pl.at4 xs 16 = D) (hT : xs.getD 8 0 = T) (hK : xs.getD 9 0 = K) (hI : Pl.at2 xs 4 = I) :
    Calls Tryd.prog 28 #[.slice a n c] w fun e w' =>
      (Pl.at2 xs 10 = Pl.sum4 S D T K I ((xs.drop 20).length : Nat) → ∃ a' n' c', e = .returned (.tuple #[pk4 S D T K I (.slice a' n' c'), .int .i64 0]) ∧ Ints .u8 w' a' n' (xs.drop 20)) ∧
      (Pl.at2 xs 10 ≠ Pl.sum4 S D T K I ((xs.drop 20).length : Nat) → e = .returned (.tuple #[pk4 0 0 0 0 0 (.slice none 0 0), .int .i64 6])) ∧ Ext w w' := by
  have hok := Pl.ok4_of hb
  rw [hS, hD, hT, hK, hI] at hok
  have KR := Blk.new w 54 (c4 0 0 0 0 0 (.slice none 0 0))
  have E0 : Ext w (w.alloc (.cells (c4 0 0 0 0 0 (.slice none 0 0)) 54)) := (Ext.refl w).alloc _
  have hlen := hr.len
  unfold Pl.Shape4 at h
  rw [hlen] at h
  obtain ⟨⟨n0, n1⟩, y0, y2, y6⟩ := h
  have g0' : ¬ (n : Int) < 20 := by omega
  have g1' : ¬ (340 : Int) < (n : Int) := by omega
  obtain ⟨b, off, rfl, hbl, hc⟩ := hr.at (by omega)
  have HC := fun (W : World) (q : Ext w W) j (hj : j < n) => (World.cell?_of_block (a := ⟨b, off + j, none⟩) (Below.block q b hbl)).trans (hc j hj)
  have WD := fun (W : World) (q : Ext w W) (k : Nat) (i : Int) (hi : i = k) (hk : k + 1 < n) => rword_any b off n c k i hi (xs.getD k 0) (xs.getD (k + 1) 0) W hk (by omega) (HC W q k (by omega)) (HC W q (k + 1) (by omega)) (hb.getD k) (hb.getD (k + 1))
  have W0 := Lib.hid (fun (W : World) (q : Ext w W) => (show Calls Tryd.prog 45 #[.slice (some ⟨b, off, none⟩) n c, .int .i64 0] W (fun e w' => e = .returned (.int .i64 17664) ∧ ∃ q, w' = W.drewN q) from y0 ▸ WD W q 0 0 rfl (by omega)))
  have W2 := Lib.hid (fun (W : World) (q : Ext w W) => (show Calls Tryd.prog 45 #[.slice (some ⟨b, off, none⟩) n c, .int .i64 2] W (fun e w' => e = .returned (.int .i64 (n : Int)) ∧ ∃ q, w' = W.drewN q) from y2 ▸ WD W q 2 2 rfl (by omega)))
  have W6 := Lib.hid (fun (W : World) (q : Ext w W) => (show Calls Tryd.prog 45 #[.slice (some ⟨b, off, none⟩) n c, .int .i64 6] W (fun e w' => e = .returned (.int .i64 16384) ∧ ∃ q, w' = W.drewN q) from y6 ▸ WD W q 6 6 rfl (by omega)))
  have WI := Lib.hid (fun (W : World) (q : Ext w W) => (show Calls Tryd.prog 45 #[.slice (some ⟨b, off, none⟩) n c, .int .i64 4] W (fun e w' => e = .returned (.int .i64 I) ∧ ∃ q, w' = W.drewN q) from hI ▸ WD W q 4 4 rfl (by omega)))
  have W10 := (fun (W : World) (q : Ext w W) => (show Calls Tryd.prog 45 #[.slice (some ⟨b, off, none⟩) n c, .int .i64 10] W (fun e w' => e = .returned (.int .i64 (Pl.at2 xs 10)) ∧ ∃ q, w' = W.drewN q) from WD W q 10 10 rfl (by omega)))
  have W12 := (fun (W : World) (q : Ext w W) => (show Calls Tryd.prog 45 #[.slice (some ⟨b, off, none⟩) n c, .int .i64 12] W (fun e w' => e = .returned (.int .i64 (Pl.at2 xs 12)) ∧ ∃ q, w' = W.drewN q) from WD W q 12 12 rfl (by omega)))
  have W14 := (fun (W : World) (q : Ext w W) => (show Calls Tryd.prog 45 #[.slice (some ⟨b, off, none⟩) n c, .int .i64 14] W (fun e w' => e = .returned (.int .i64 (Pl.at2 xs 14)) ∧ ∃ q, w' = W.drewN q) from WD W q 14 14 rfl (by omega)))
  have W16 := (fun (W : World) (q : Ext w W) => (show Calls Tryd.prog 45 #[.slice (some ⟨b, off, none⟩) n c, .int .i64 16] W (fun e w' => e = .returned (.int .i64 (Pl.at2 xs 16)) ∧ ∃ q, w' = W.drewN q) from WD W q 16 16 rfl (by omega)))
  have W18 := (fun (W : World) (q : Ext w W) => (show Calls Tryd.prog 45 #[.slice (some ⟨b, off, none⟩) n c, .int .i64 18] W (fun e w' => e = .returned (.int .i64 (Pl.at2 xs 18)) ∧ ∃ q, w' = W.drewN q) from WD W q 18 18 rfl (by omega)))
  have hS' : 65536 * Pl.at2 xs 12 + Pl.at2 xs 14 = S := by
    rw [← hS]
    show 65536 * (xs.getD 12 0 * 256 + xs.getD 13 0) + (xs.getD 14 0 * 256 + xs.getD 15 0) = xs.getD 12 0 * 16777216 + xs.getD 13 0 * 65536 + xs.getD 14 0 * 256 + xs.getD 15 0
    omega
  have hD' : 65536 * Pl.at2 xs 16 + Pl.at2 xs 18 = D := by
    rw [← hD]
    show 65536 * (xs.getD 16 0 * 256 + xs.getD 17 0) + (xs.getD 18 0 * 256 + xs.getD 19 0) = xs.getD 16 0 * 16777216 + xs.getD 17 0 * 65536 + xs.getD 18 0 * 256 + xs.getD 19 0
    omega
  have b12 := Pl.at2_bd hb 12
  have b14 := Pl.at2_bd hb 14
  have b16 := Pl.at2_bd hb 16
  have b18 := Pl.at2_bd hb 18
  have c8 := hc 8 (by omega)
  have c9 := hc 9 (by omega)
  rw [hT] at c8
  rw [hK] at c9
  have G8 := Lib.hid (fun (W : World) (q : Ext w W) => (World.cell?_of_block (a := ⟨b, off + 8, none⟩) (Below.block q b hbl)).trans c8)
  have G9 := Lib.hid (fun (W : World) (q : Ext w W) => (World.cell?_of_block (a := ⟨b, off + 9, none⟩) (Below.block q b hbl)).trans c9)
  obtain ⟨A20, i20, z20, r20⟩ := slice_tail (some ⟨b, off, none⟩) n c 20 20 rfl (by omega) hnc (fun h => by cases h)
  have I20 := Lib.hid (fun (W : World) (q : Ext w W) => (i20 w xs hr).ext q)
  have l20 : (xs.drop 20).length = n - 20 := by rw [List.length_drop, hlen]
  rw [l20]
  have hsum := Pl.sum4_bd S D T K I ((n - 20 : Nat) : Int)
  have hsd : 65535 - Pl.fold (Pl.raw 0 (Pl.head4 S D T K I ((n - 20 : Nat) : Int) 0)) = Pl.sum4 S D T K I ((n - 20 : Nat) : Int) := rfl
  have hsB := Pl.head4_isB hok (n := ((n - 20 : Nat) : Int)) (c := 0) (by omega) (by omega)
  have hB4 := Lib.hid (fun (W : World) => bytes4_any S D T K I 0 A20 (n - 20) (c - 20) W hok (by omega) (by omega))
  have HSB := Lib.hid hsB
  have HSD := Lib.hid hsd
  have f0 := Pl.fold_lo (Pl.raw 0 (Pl.head4 S D T K I ((n - 20 : Nat) : Int) 0))
  have f1 := Pl.fold_hi (Pl.raw 0 (Pl.head4 S D T K I ((n - 20 : Nat) : Int) 0))
  generalize Pl.sum4 S D T K I ((n - 20 : Nat) : Int) = SU at *
  generalize hF : Pl.fold (Pl.raw 0 (Pl.head4 S D T K I ((n - 20 : Nat) : Int) 0)) = F at *
  have HF := Lib.hid hF
  generalize Pl.at2 xs 10 = V10 at *
  generalize Pl.at2 xs 12 = V12 at *
  generalize Pl.at2 xs 14 = V14 at *
  generalize Pl.at2 xs 16 = V16 at *
  generalize Pl.at2 xs 18 = V18 at *
  have ewF : IntKind.i64.wrap (65535 - F) = 65535 - F := IntWalk.i64_in _ (by omega)
  have ew1 : IntKind.i64.wrap (65536 * V12) = 65536 * V12 := IntWalk.i64_in _ (by omega)
  have ew2 : IntKind.i64.wrap (65536 * V12 + V14) = S := by rw [← hS']; exact IntWalk.i64_in _ (by omega)
  have ew3 : IntKind.i64.wrap (65536 * V16) = 65536 * V16 := IntWalk.i64_in _ (by omega)
  have ew4 : IntKind.i64.wrap (65536 * V16 + V18) = D := by rw [← hD']; exact IntWalk.i64_in _ (by omega)
  obtain ⟨_, _, ⟨t0, t1⟩, ⟨k0, k1⟩, _⟩ := hok
  have ew8 : IntKind.i64.wrap T = T := IntWalk.i64_in _ (by omega)
  have ew9 : IntKind.i64.wrap K = K := IntWalk.i64_in _ (by omega)
  have l8 : (8 : Int) < (n : Int) := by omega
  have l9 : (9 : Int) < (n : Int) := by omega
  have W10 := Lib.hid W10
  have W12 := Lib.hid W12
  have W14 := Lib.hid W14
  have W16 := Lib.hid W16
  have W18 := Lib.hid W18
  have HR := Lib.hid hr
  clear hr hb hc HC WD y0 y2 y6 hS hD hT hK hI hS' hD' c8 c9 i20 hF hsB hsd f0 f1 hsum l20 hlen b12 b14 b16 b18
  go_enter Tryd.func28, Tryd.ntmps28
  go_wp2_with fail
  refine (W0.out _ E0).mono ?_
  rintro e Wa ⟨rfl, qa⟩
  obtain ⟨Ea, Fa⟩ := E0.drawn4 qa
  have Ka := KR.ext Fa
  have hsa := drawn_size qa
  clear E0 KR Fa qa
  go_wp2_with fail
  refine (W2.out _ Ea).mono ?_
  rintro e Wb ⟨rfl, qb⟩
  obtain ⟨Eb, Fb⟩ := Ea.drawn4 qb
  have Kb := Ka.ext Fb
  have hsb := (drawn_size qb).trans hsa
  clear Ea Ka Fb qb hsa
  go_wp2_with fail
  refine (W6.out _ Eb).mono ?_
  rintro e W1 ⟨rfl, qc⟩
  obtain ⟨E1, Fc⟩ := Eb.drawn4 qc
  have K1 := Kb.ext Fc
  have hs1 : W1.heap.size = w.heap.size + 1 := (drawn_size qc).trans (hsb.trans (by simp))
  clear Eb Kb Fc qc hsb
  have c8 := G8.out _ E1
  have c9 := G9.out _ E1
  have nb : ¬ b = w.heap.size + 1 := by omega
  have nb' : ¬ w.heap.size + 1 = b := by omega
  have HE1 := Lib.hid E1
  have HK1 := Lib.hid K1
  have hput : ∀ (W : World), Blk W (w.heap.size + 1) 54 (c4 0 0 0 0 0 (.slice none 0 0)) → Blk ((((((W.setCell ⟨w.heap.size + 1, 0, none⟩ (.int .i64 S)).setCell ⟨w.heap.size + 1, 1, none⟩ (.int .i64 D)).setCell ⟨w.heap.size + 1, 2, none⟩ (.int .i64 T)).setCell ⟨w.heap.size + 1, 3, none⟩ (.int .i64 K)).setCell ⟨w.heap.size + 1, 4, none⟩ (.int .i64 I)).setCell ⟨w.heap.size + 1, 5, none⟩ (.slice none 0 0)) (w.heap.size + 1) 54 (c4 S D T K I (.slice none 0 0)) :=
    fun W h => (((((h.put 0 (.int .i64 S)).put 1 (.int .i64 D)).put 2 (.int .i64 T)).put 3 (.int .i64 K)).put 4 (.int .i64 I)).put 5 (.slice none 0 0)
  have HP := Lib.hid hput
  clear hput E1 K1
  go_upto_region 3 with (fail)
  go_cut [4] (fun s4 wx => s4 = .pointer (some ⟨w.heap.size + 1, 0, none⟩) ∧ Below (w.heap.size + 1) W1 wx ∧ Blk wx (w.heap.size + 1) 54 (c4 S D T K I (.slice none 0 0)))
  case first =>
    go_region_held3 (fun w' => w'.cell? ⟨b, off + 8, none⟩ = some (.int .u8 T) ∧ w'.cell? ⟨b, off + 9, none⟩ = some (.int .u8 K))
      (first | go_keep)
      (first
        | (go_at_call 45; (with_reducible refine (W12.out _ (by (repeat' (first | (with_reducible exact HE1.out) | (with_reducible refine Ext.drewN' ?_ _) | (with_reducible refine Ext.drew' ?_) | (with_reducible refine Ext.alloc' ?_ _))))).mono ?_); rintro e w' ⟨rfl, qW12, rfl⟩)
        | (go_at_call 45; (with_reducible refine (W14.out _ (by (repeat' (first | (with_reducible exact HE1.out) | (with_reducible refine Ext.drewN' ?_ _) | (with_reducible refine Ext.drew' ?_) | (with_reducible refine Ext.alloc' ?_ _))))).mono ?_); rintro e w' ⟨rfl, qW14, rfl⟩)
        | (go_at_call 45; (with_reducible refine (W16.out _ (by (repeat' (first | (with_reducible exact HE1.out) | (with_reducible refine Ext.drewN' ?_ _) | (with_reducible refine Ext.drew' ?_) | (with_reducible refine Ext.alloc' ?_ _))))).mono ?_); rintro e w' ⟨rfl, qW16, rfl⟩)
        | (go_at_call 45; (with_reducible refine (W18.out _ (by (repeat' (first | (with_reducible exact HE1.out) | (with_reducible refine Ext.drewN' ?_ _) | (with_reducible refine Ext.drew' ?_) | (with_reducible refine Ext.alloc' ?_ _))))).mono ?_); rintro e w' ⟨rfl, qW18, rfl⟩)
        | (go_at_call 45; (with_reducible refine (WI.out _ (by (repeat' (first | (with_reducible exact HE1.out) | (with_reducible refine Ext.drewN' ?_ _) | (with_reducible refine Ext.drew' ?_) | (with_reducible refine Ext.alloc' ?_ _))))).mono ?_); rintro e w' ⟨rfl, qWI, rfl⟩))
    all_goals
      go_wp2_with fail
      go_meet
      refine ⟨rfl, ?_, ?_⟩
      · repeat' (first | (with_reducible exact Below.refl _ _) | (with_reducible refine below_drewN ?_ _) | (with_reducible refine Below.drew ?_) | (with_reducible refine Below.setCell ?_ ?_ _) | (with_reducible refine Below.alloc ?_ ?_ _) | go_size | (simp [hs1]; done))
      · repeat' (first | (with_reducible refine Blk.at _ _ _ ?_) | (with_reducible refine Blk.drewN ?_ _) | (simp [hs1]; done) | (with_reducible refine HP.out _ ?_))
  case rest =>
    obtain ⟨rfl, B2, K2⟩ := hcut
    have E2 : Ext w wc := HE1.out.trans (B2.mono (by omega))
    have R2 := HK1.out.below B2 (Nat.lt_succ_self _)
    have hc5 := K2.cells 5
    have hf5 := K2.free 5
    clear B2 c8 c9
    go_upto_region 5 with (fail)
    have K3 : Blk _ (w.heap.size + 1) 54 (c4 S D T K I (.slice A20 (n - 20) (c - 20))) := K2.put 5 (.slice A20 (n - 20) (c - 20))
    have E3 := E2.setCell (p := ⟨w.heap.size + 1, 5, none⟩) (by show w.heap.size ≤ w.heap.size + 1; omega) (.slice A20 (n - 20) (c - 20))
    have R3 := R2.far (p := ⟨w.heap.size + 1, 5, none⟩) (by show w.heap.size ≠ w.heap.size + 1; omega) (.slice A20 (n - 20) (c - 20))
    clear K2 E2 R2 hc5 hf5
    refine at_worldF (fun W => Ext w W ∧ Blk W (w.heap.size + 1) 54 (c4 S D T K I (.slice A20 (n - 20) (c - 20))) ∧ Blk W w.heap.size 54 (c4 0 0 0 0 0 (.slice none 0 0))) ⟨E3, K3, R3⟩ ?_
    clear E3 K3 R3
    rintro W4 ⟨E4, K4, R4⟩
    refine wp_region_held_drew (S := (fun w' => ∀ j, w'.cell? ⟨w.heap.size + 1, j, none⟩ = (c4 S D T K I (.slice A20 (n - 20) (c - 20)))[j]?)) (by kernel_rfl) (K4.drew).cells (fun hS0 => ?_)
    (refine wpAnyH_take (i := 0) (v := ?_) rfl (by kernel_rfl) (by kernel_rfl) (by kernel_rfl) (fun _ _ _ h => h) (Or.inl ⟨by rfl, ?_⟩) (by assumption) ?_; rotate_left; focus (intro w hSw; (try dsimp only at hSw); go_simp; try with_reducible rfl); try simp only [Act.put, List.getElem_toArray, List.getElem_cons_succ, List.getElem_cons_zero, List.setIfInBounds_toArray, List.set_cons_zero, List.set_cons_succ])
    (refine wpAnyH_take (i := 2) (v := ?_) rfl (by kernel_rfl) (by kernel_rfl) (by kernel_rfl) (fun _ _ _ h => h) (Or.inl ⟨by rfl, ?_⟩) (by assumption) ?_; rotate_left; focus (intro w hSw; (try dsimp only at hSw); go_simp; try with_reducible rfl); try simp only [Act.put, List.getElem_toArray, List.getElem_cons_succ, List.getElem_cons_zero, List.setIfInBounds_toArray, List.set_cons_zero, List.set_cons_succ])
    (refine wpAnyH_ready (rs := [1]) (by kernel_rfl) (by simp) ?_; refine AllReadyH.cons rfl (fun K hK => ?_) AllReadyH.nil)
    go_simp
    go_at_call 45
    refine (W10.out _ E4.drew).mono ?_
    rintro e W5 ⟨rfl, q5⟩
    obtain ⟨E5, F5⟩ := E4.drew.drawn4 q5
    have K5 := (Blk.drew K4).ext F5
    have R5 := (Blk.drew R4).ext F5
    refine hK.out _ _ K5.cells ?_
    clear hK K E4 K4 R4 F5 q5
    intro hS
    (try simp only [Act.put, List.getElem_toArray, List.getElem_cons_succ, List.getElem_cons_zero, List.setIfInBounds_toArray, List.set_cons_zero, List.set_cons_succ])
    (refine wpAnyH_ready (rs := [3]) (by kernel_rfl) (by simp) ?_; refine AllReadyH.cons rfl (fun K hK => ?_) AllReadyH.nil)
    go_simp
    go_at_call 51
    refine (hB4.out _).mono ?_
    rintro e W6 ⟨v6, rfl, o6, q6⟩
    obtain ⟨a6, n6, c6, rfl, _, r6⟩ := o6.read
    obtain rfl : 20 = n6 := r6.len
    have E6 := E5.trans q6
    have K6 := K5.ext q6
    have R6 := R5.ext q6
    refine hK.out _ _ K6.cells ?_
    clear hK K E5 K5 R5 q6 o6
    intro hS
    (try simp only [Act.put, List.getElem_toArray, List.getElem_cons_succ, List.getElem_cons_zero, List.setIfInBounds_toArray, List.set_cons_zero, List.set_cons_succ])
    (refine wpAnyH_ready (rs := [4]) (by kernel_rfl) (by simp) ?_; refine AllReadyH.cons rfl (fun K hK => ?_) AllReadyH.nil)
    go_simp
    go_at_call 8
    refine (sumOf_any a6 20 c6 _ W6 r6 HSB.out (by omega)).mono ?_
    rintro e w' ⟨rfl, rfl⟩
    rw [HF.out]
    refine hK.out _ _ K6.cells ?_
    clear hK K
    intro hS
    (try simp only [Act.put, List.getElem_toArray, List.getElem_cons_succ, List.getElem_cons_zero, List.setIfInBounds_toArray, List.set_cons_zero, List.set_cons_succ])
    (refine wpAnyH_take (i := 5) (v := ?_) rfl (by kernel_rfl) (by kernel_rfl) (by kernel_rfl) (fun _ _ _ h => h) (Or.inl ⟨by rfl, ?_⟩) (by assumption) ?_; rotate_left; focus (intro w hSw; (try dsimp only at hSw); go_simp; try with_reducible rfl); try simp only [Act.put, List.getElem_toArray, List.getElem_cons_succ, List.getElem_cons_zero, List.setIfInBounds_toArray, List.set_cons_zero, List.set_cons_succ])
    (refine wpAnyH_take (i := 6) (v := ?_) rfl (by kernel_rfl) (by kernel_rfl) (by kernel_rfl) (fun _ _ _ h => h) (Or.inl ⟨by rfl, ?_⟩) (by assumption) ?_; rotate_left; focus (intro w hSw; (try dsimp only at hSw); go_simp; try with_reducible rfl); try simp only [Act.put, List.getElem_toArray, List.getElem_cons_succ, List.getElem_cons_zero, List.setIfInBounds_toArray, List.set_cons_zero, List.set_cons_succ])
    refine wpAnyH_done (by kernel_rfl) ?_ _
    rw [HSD.out]
    clear hS hS0 r6
    have l6 := K6.p4
    by_cases hV : V10 = SU
    case pos =>
      have hV' : (V10 != SU) = false := by simpa using hV
      have s6 := sto4 R6 S D T K I A20 (n - 20) (c - 20)
      go_wp2_with (first | ((apply load_by rfl _ _ rfl _ rfl); (focus (with_reducible assumption))) | ((apply store_by rfl _ _ _ rfl _ rfl); (focus (with_reducible assumption)); (focus rfl)))
      refine bodyPost_ret (results_cell2 Tryd.results28 _ _ w.heap.size 54 (c4 S D T K I (.slice A20 (n - 20) (c - 20))) _ rfl (R6.row _) Tryd.underlying54 rfl Tryd.sizeP4) rfl ⟨fun _ => ⟨_, _, _, rfl, I20.out _ (E6.row (Nat.le_refl _) _)⟩, fun h => absurd hV h, E6.row (Nat.le_refl _) _⟩
    case neg =>
      have hV' : (V10 != SU) = true := by simpa using hV
      have s6 := sto4 R6 0 0 0 0 0 none 0 0
      clear l6
      go_wp2_with ((apply store_by rfl _ _ _ rfl _ rfl); (focus (with_reducible assumption)); (focus rfl))
      refine bodyPost_ret (results_cell2 Tryd.results28 _ _ w.heap.size 54 (c4 0 0 0 0 0 (.slice none 0 0)) _ rfl (R6.row _) Tryd.underlying54 rfl Tryd.sizeP4) rfl ⟨fun h => absurd h hV, fun _ => rfl, E6.row (Nat.le_refl _) _⟩
end Go.Proofs.YtlgdmipejgggkaaDoor
