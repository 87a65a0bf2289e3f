/- The document's answers on streams with heads: less, Down, Up. Conditions: as each theorem states them. -/
import Derived.Test.YtkjchddidpjjmaaDoorRefS
import Derived.Test.YtkjchddidpjjmaaDoorShP
import Derived.BigQuiet
namespace Go.Proofs.YtkjchddidpjjmaaDoor
open Go.RowKit
/-- The document's stream at block g. -/
def StR (w : World) (g : Nat) (h : Value) (start : Int) (begun heard : Bool) : Prop := Blk w g 48 #[h, .int .i64 start, .bool begun, .bool heard]
/-- What the document's calls give. -/
def RefGot (w : World) (g : Nat) (h : Value) (a : Option Addr) (m : Nat) (r : Pl.Res) (e : Ending) (w' : World) : Prop :=
  ∃ a' n c, e = .returned (.tuple #[.agg (r.s.cells (.slice a' n c)), .int .i64 r.q]) ∧ Ints .u8 w' a' n r.bs ∧ (∀ p, a' = some p → (a = some p ∧ n = m) ∨ w.heap.size ≤ p.block) ∧ StR w' g h r.start r.begun r.heard ∧ w.grownBy w' (some g)
theorem Ints.only' {k : IntKind} {w w' : World} {a : Option Addr} {n : Nat} {xs : List Int} {g : Nat} (h : Ints k w a n xs) (hb : w.grownBy w' (some g)) (hg : 0 < n → ∀ p, a = some p → p.block ≠ g) : Ints k w' a n xs := by
  by_cases hn : 0 < n
  · exact h.only hb (hg hn)
  · obtain rfl : n = 0 := by omega
    obtain rfl : xs = [] := List.length_eq_zero_iff.1 h.len
    exact Ints.nil
theorem less_any (x y : Int) (w : World) (hx : 0 ≤ x ∧ x < 4294967296) (hy : 0 ≤ y ∧ y < 4294967296) :
    Calls Tryd.prog 58 #[.int .i64 x, .int .i64 y] w fun e w' => e = .returned (.int .i64 (ser (x - y))) ∧ w' = w := by
  have e1 : IntKind.i64.wrap (x - y) = x - y := IntWalk.i64_in _ (by omega)
  have e2 : IntKind.i64.wrap (x - y + 4294967296) = x - y + 4294967296 := IntWalk.i64_in _ (by omega)
  have e3 : IntKind.i64.wrap ((x - y + 4294967296) % 4294967296) = (x - y + 4294967296) % 4294967296 := IntWalk.i64_in _ (by omega)
  have e4 : (x - y + 4294967296).tmod 4294967296 = (x - y + 4294967296) % 4294967296 := Int.tmod_eq_emod_of_nonneg (by omega)
  have HY := Lib.hid (show (x - y + 4294967296) % 4294967296 = ser (x - y) by unfold ser; omega)
  go_enter Tryd.func58, Tryd.ntmps58
  go_wp2_with fail
  go_ret
  exact ⟨by first | rfl | (show Ending.returned (.int .i64 ((x - y + 4294967296) % 4294967296)) = _; rw [HY.out]), rfl⟩
theorem Pl.sf_ne {s : Sg} {n : Nat} (h : Pl.segFault s n ≠ 0) : Pl.shFault s n = Pl.segFault s n := by unfold Pl.shFault; rw [if_pos h]
theorem Pl.sf_kind {s : Sg} {n : Nat} (h : Pl.segFault s n = 0) (hk : s.kind ≠ 6) : Pl.shFault s n = 2 := by unfold Pl.shFault; rw [if_neg (by simpa using h), if_pos hk]
theorem Pl.sf_ok {s : Sg} {n : Nat} (h : Pl.segFault s n = 0) (hk : s.kind = 6) : Pl.shFault s n = 0 := by unfold Pl.shFault; rw [if_neg (by simpa using h), if_neg (by simpa using hk)]
theorem ahead_b (x y : Int) : aheadB x y = (decide (1 ≤ ser (y - x)) && decide (ser (y - x) ≤ 2147483647)) := by
  unfold aheadB ser
  rw [Bool.eq_iff_iff]
  simp
  omega

set_option maxRecDepth 100000 in
set_option maxHeartbeats 4000000 in
theorem rdown_res (g : Nat) (h : Value) (start : Int) (begun heard : Bool) (s : Sg) (a : Option Addr) (n c : Nat) (xs : List Int) (w : World) (K : StR w g h start begun heard) (hst : 0 ≤ start ∧ start < 4294967296)
    (hx : Ints .u8 w a n xs) (hg : 0 < n → ∀ p, a = some p → p.block ≠ g) :
    Calls Tryd.prog 20 #[.pointer (some ⟨g, 0, none⟩), s.v (.slice a n c)] w fun e w' => RefGot w g h a n (Pl.down start begun heard s xs) e w' := by
  obtain rfl : xs.length = n := hx.len
  have KB := Blk.new w 50 (s.cells (.slice a xs.length c))
  have KB1 := KB.alloc (.cells #[.int .i64 0, .int .i64 0, .int .i64 0, .int .i64 0, .int .i64 0, .int .i64 0, .int .i64 0, .slice none 0 0] 50)
  have lB := KB1.seg
  have HX := Lib.hid hx
  have HG := Lib.hid hg
  have HS := Lib.hid hst
  have HK := Lib.hid K
  have hgl := Blk.lt K
  clear hx hg hst K
  go_enter Tryd.func20, Tryd.ntmps20
  go_wp2_with ((apply load_by rfl _ _ rfl _ rfl); (focus (with_reducible assumption)))
  refine at_world (fun W => Ext w W ∧ Blk W (w.heap.size + 1) 50 #[.int .i64 0, .int .i64 0, .int .i64 0, .int .i64 0, .int .i64 0, .int .i64 0, .int .i64 0, .slice none 0 0] ∧ Blk W w.heap.size 50 (s.cells (.slice a xs.length c))) ⟨((Ext.refl w).alloc _).alloc _, Blk.at _ _ _ (by simp), KB1⟩ ?_
  rintro W1 ⟨E1, KR, KS⟩
  clear KB KB1 lB
  refine (rsegFault_any s a xs.length c W1).mono ?_
  rintro e W2 ⟨rfl, q2⟩
  have E2 := E1.trans q2
  have KR2 := KR.ext q2
  have KS2 := KS.ext q2
  have KG2 : StR W2 g h start begun heard := Blk.ext HK.out E2
  have s0 := sto0 KR2
  clear KR KS q2 E1
  by_cases hq : Pl.segFault s xs.length = 0
  case neg =>
    have HE := Lib.hid (show Pl.down start begun heard s xs = ⟨Pl.segFault s xs.length, sg0, [], start, begun, heard⟩ by
      unfold Pl.down; rw [Pl.sf_ne hq, if_pos hq])
    generalize Pl.segFault s xs.length = q at *
    have hqb : (q != 0) = true := by simpa using hq
    clear hq
    go_wp2_with ((apply store_by rfl _ _ _ rfl _ rfl); (focus (with_reducible assumption)); (focus rfl))
    refine bodyPost_ret (results_cell2 Tryd.results20 _ _ (w.heap.size + 1) 50 #[.int .i64 0, .int .i64 0, .int .i64 0, .int .i64 0, .int .i64 0, .int .i64 0, .int .i64 0, .slice none 0 0] _ rfl (KR2.row _) Tryd.underlying50 rfl Tryd.sizeSeg) rfl ?_
    rw [HE.out]
    exact ⟨none, 0, 0, rfl, Ints.nil, fun p hp => (by cases hp), Blk.farRow KG2 (by omega) _, (E2.row (by omega) _).only g⟩
  have HQ := Lib.hid hq
  rw [hq]
  clear hq
  obtain ⟨d0, d1, d2, d3, d4, d5, d6, d7⟩ := KS2.sg
  by_cases hk : s.kind = 6
  case neg =>
    have HE := Lib.hid (show Pl.down start begun heard s xs = ⟨2, sg0, [], start, begun, heard⟩ by
      unfold Pl.down; rw [Pl.sf_kind HQ.out hk, if_pos (by decide)])
    have hkb : (s.kind != 6) = true := by simpa using hk
    clear hk
    go_wp2_with ((apply store_by rfl _ _ _ rfl _ rfl); (focus (with_reducible assumption)); (focus rfl))
    refine bodyPost_ret (results_cell2 Tryd.results20 _ _ (w.heap.size + 1) 50 #[.int .i64 0, .int .i64 0, .int .i64 0, .int .i64 0, .int .i64 0, .int .i64 0, .int .i64 0, .slice none 0 0] _ rfl (KR2.row _) Tryd.underlying50 rfl Tryd.sizeSeg) rfl ?_
    rw [HE.out]
    exact ⟨none, 0, 0, rfl, Ints.nil, fun p hp => (by cases hp), Blk.farRow KG2 (by omega) _, (E2.row (by omega) _).only g⟩
  have HF := Pl.sf_ok HQ.out hk
  have HD := Lib.hid (show Pl.down start begun heard s xs = (if begun = false then ⟨9, sg0, [], start, begun, heard⟩
      else if s.flags / 16 % 2 = 0 then ⟨0, s, xs, start, begun, heard⟩
      else if aheadB s.ack start = true then ⟨0, { s with ack := start }, xs, start, begun, heard⟩
      else ⟨0, s, xs, start, begun, true⟩) by unfold Pl.down; rw [HF]; rfl)
  obtain ⟨-, -, ⟨k0, k1⟩, ⟨f0, f1⟩, -⟩ := shFault_ok HF
  have hkb : (s.kind != 6) = false := by simpa using hk
  clear hk HF
  have b1 : W2.cell? ⟨g, 1, none⟩ = some (.int .i64 start) := Blk.cells KG2 1
  have b2 : W2.cell? ⟨g, 2, none⟩ = some (.bool begun) := Blk.cells KG2 2
  have b3 : W2.cell? ⟨g, 3, none⟩ = some (.bool heard) := Blk.cells KG2 3
  cases begun
  case false =>
    have HE := Lib.hid (show Pl.down start false heard s xs = ⟨9, sg0, [], start, false, heard⟩ by rw [HD.out, if_pos rfl])
    clear HD
    go_wp2_with ((apply store_by rfl _ _ _ rfl _ rfl); (focus (with_reducible assumption)); (focus rfl))
    refine bodyPost_ret (results_cell2 Tryd.results20 _ _ (w.heap.size + 1) 50 #[.int .i64 0, .int .i64 0, .int .i64 0, .int .i64 0, .int .i64 0, .int .i64 0, .int .i64 0, .slice none 0 0] _ rfl (KR2.row _) Tryd.underlying50 rfl Tryd.sizeSeg) rfl ?_
    rw [HE.out]
    exact ⟨none, 0, 0, rfl, Ints.nil, fun p hp => (by cases hp), Blk.farRow KG2 (by omega) _, (E2.row (by omega) _).only g⟩
  have eq1 : IntKind.i64.wrap (s.flags.tdiv 16) = s.flags / 16 := by rw [Int.tdiv_eq_ediv_of_nonneg f0]; exact IntWalk.i64_in _ (by omega)
  have eq2 : IntKind.i64.wrap ((s.flags / 16).tmod 2) = s.flags / 16 % 2 := by rw [Int.tmod_eq_emod_of_nonneg (by omega)]; exact IntWalk.i64_in _ (by omega)
  have l2 := KS2.seg
  have t2 := sto KR2 s a xs.length c
  by_cases hA : s.flags / 16 % 2 = 0
  case pos =>
    have hAb : (s.flags / 16 % 2 == 0) = true := by simpa using hA
    have HE := Lib.hid (show Pl.down start true heard s xs = ⟨0, s, xs, start, true, heard⟩ by rw [HD.out, if_neg (by decide), if_pos hA])
    clear hA
    go_wp2_with (first | ((apply load_by rfl _ _ rfl _ rfl); (focus (with_reducible assumption))) | ((apply store_by rfl _ _ _ rfl _ rfl); (focus (with_reducible assumption)); (focus rfl)))
    refine bodyPost_ret (results_cell2 Tryd.results20 _ _ (w.heap.size + 1) 50 _ _ rfl (KR2.row _) Tryd.underlying50 rfl Tryd.sizeSeg) rfl ?_
    rw [HE.out]
    exact ⟨a, _, c, rfl, HX.out.ext (E2.row (by omega) _), fun p hp => .inl ⟨hp, rfl⟩, Blk.farRow KG2 (by omega) _, (E2.row (by omega) _).only g⟩
  have hAb : (s.flags / 16 % 2 == 0) = false := by simpa using hA
  have HE := Lib.hid (show Pl.down start true heard s xs = (if aheadB s.ack start = true then ⟨0, { s with ack := start }, xs, start, true, heard⟩
      else ⟨0, s, xs, start, true, true⟩) by rw [HD.out, if_neg (by decide), if_neg hA])
  have HAB := Lib.hid (ahead_b s.ack start)
  clear hA HD
  have hR1 : ¬ w.heap.size + 1 = w.heap.size := by omega
  have hR2 : ¬ w.heap.size + 1 = g := by omega
  have hR3 : ¬ g = w.heap.size := by omega
  have hR4 : ¬ w.heap.size = g := by omega
  have fS4 := KS2.free 4
  have fG3 := Blk.free KG2 3
  go_wp2_with fail
  go_quiet ((go_at_call 58; exact Calls.quiet_of_same (less_any start s.ack _ HS.out ⟨k0, k1⟩)))
  generalize ser (start - s.ack) = y at *
  have E3 := E2.drewN nq
  have KR3 := KR2.drewN nq
  have KS3 := KS2.drewN nq
  have KG3 := Blk.drewN KG2 nq
  generalize W2.drewN nq = W3 at *
  clear E2 KR2 KS2 KG2 s0 l2 t2 b1 b2 b3 d0 d1 d2 d3 d4 d5 d6 d7 fS4 fG3
  obtain ⟨d0, d1, d2, d3, d4, d5, d6, d7⟩ := KS3.sg
  have b1 : W3.cell? ⟨g, 1, none⟩ = some (.int .i64 start) := Blk.cells KG3 1
  have b3 : W3.cell? ⟨g, 3, none⟩ = some (.bool heard) := Blk.cells KG3 3
  have fS4 := KS3.free 4
  have fG3 : W3.frozen? ⟨g, 3, none⟩ = false := Blk.free KG3 3
  by_cases hy : 1 ≤ y ∧ y ≤ 2147483647
  case pos =>
    obtain ⟨y1, y2⟩ := hy
    have HZ := Lib.hid (show Pl.down start true heard s xs = ⟨0, { s with ack := start }, xs, start, true, heard⟩ by
      rw [HE.out, if_pos (by rw [HAB.out]; simp; omega)])
    have KS4 : Blk (W3.setCell ⟨w.heap.size, 4, none⟩ (.int .i64 start)) w.heap.size 50 ({ s with ack := start }.cells (.slice a xs.length c)) := KS3.put 4 _
    have KR4 := KR3.far (p := ⟨w.heap.size, 4, none⟩) hR1 (.int .i64 start)
    have KG4 := Blk.far KG3 (p := ⟨w.heap.size, 4, none⟩) hR3 (.int .i64 start)
    have E4 := E3.set (p := ⟨w.heap.size, 4, none⟩) (Nat.le_refl _) (.int .i64 start)
    have l4 := KS4.seg
    have t4 := sto KR4 { s with ack := start } a xs.length c
    clear KS3 KR3 KG3 E3
    go_wp2_with (first | ((apply load_by rfl _ _ rfl _ rfl); (focus (with_reducible assumption))) | ((apply store_by rfl _ _ _ rfl _ rfl); (focus (with_reducible assumption)); (focus rfl)))
    refine bodyPost_ret (results_cell2 Tryd.results20 _ _ (w.heap.size + 1) 50 _ _ rfl (KR4.row _) Tryd.underlying50 rfl Tryd.sizeSeg) rfl ?_
    rw [HZ.out]
    exact ⟨a, _, c, rfl, HX.out.ext (E4.row (by omega) _), fun p hp => .inl ⟨hp, rfl⟩, Blk.farRow KG4 (by omega) _, (E4.row (by omega) _).only g⟩
  case neg =>
    have HZ := Lib.hid (show Pl.down start true heard s xs = ⟨0, s, xs, start, true, true⟩ by
      rw [HE.out, if_neg (by rw [HAB.out]; simp; omega)])
    have KS4 := KS3.far (p := ⟨g, 3, none⟩) hR4 (.bool true)
    have KR4 := KR3.far (p := ⟨g, 3, none⟩) hR2 (.bool true)
    have KG4 : StR (W3.setCell ⟨g, 3, none⟩ (.bool true)) g h start true true := Blk.put KG3 3 _
    have G4 := only_set (E3.only g) 3 (.bool true)
    have l4 := KS4.seg
    have t4 := sto KR4 s a xs.length c
    clear KS3 KR3 KG3
    by_cases y1 : 1 ≤ y
    case' pos => have y2 : ¬ y ≤ 2147483647 := by omega
    all_goals
      clear hy
      go_wp2_with (first | ((apply load_by rfl _ _ rfl _ rfl); (focus (with_reducible assumption))) | ((apply store_by rfl _ _ _ rfl _ rfl); (focus (with_reducible assumption)); (focus rfl)))
      refine bodyPost_ret (results_cell2 Tryd.results20 _ _ (w.heap.size + 1) 50 _ _ rfl (KR4.row _) Tryd.underlying50 rfl Tryd.sizeSeg) rfl ?_
      rw [HZ.out]
      exact ⟨a, _, c, rfl, HX.out.only' (only_row G4 (by omega) _) HG.out, fun p hp => .inl ⟨hp, rfl⟩, Blk.farRow KG4 (by omega) _, only_row G4 (by omega) _⟩

end Go.Proofs.YtkjchddidpjjmaaDoor
