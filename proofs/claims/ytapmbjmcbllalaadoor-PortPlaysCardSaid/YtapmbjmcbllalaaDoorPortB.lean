/- Whose blocks are whose: port's Blocks, the document's, and gangplanksame.Ints of two lists that are the same. Conditions: as each lemma states them. -/
import Derived.Test.YtapmbjmcbllalaaDoorRPort2
namespace Go.Proofs.YtapmbjmcbllalaaDoor
open Go.RowKit
def PS.his (s : PS) (who : Six) (k : Nat) : Bool := decide (0 < s.many k) && sixEq (s.own k) who
/-- Somebody's blocks below k. -/
def PS.bl (s : PS) (who : Six) : Nat → List Int
  | 0 => []
  | k + 1 => if s.his who k = true then s.bl who k ++ [(k : Int)] else s.bl who k
theorem PS.bl_len (s : PS) (who : Six) : ∀ k, (s.bl who k).length ≤ k
  | 0 => Nat.le_refl _
  | k + 1 => by
    have := s.bl_len who k
    unfold PS.bl
    split
    · rw [List.length_append]; simp; omega
    · omega
theorem PS.bl_yes {s : PS} {who : Six} {k : Nat} (h : s.his who k = true) : s.bl who (k + 1) = s.bl who k ++ [(k : Int)] := if_pos h
theorem PS.bl_no {s : PS} {who : Six} {k : Nat} (h : s.his who k = false) : s.bl who (k + 1) = s.bl who k := if_neg (by rw [h]; exact Bool.false_ne_true)
theorem Kin.Own.add {α : Type} {K : Kin α} {t : TypeId} {w w' : World} {B : Nat} {v : Value} {xs : List α} (h : K.Own t w B v xs) (e : Ext w w') : K.Own t w' B v xs := h.ext e
set_option maxRecDepth 100000 in
set_option maxHeartbeats 2000000 in
theorem blocks_any (gP gB : Nat) (s : PS) (who : Six) (w : World) (h : Prt w gP gB s) (ho : okS who = true) :
    Calls Tryd.prog 26 #[.pointer (some ⟨gP, 0, none⟩), who.v] w fun e w' => ∃ v, e = .returned (.tuple #[v, .nilIface]) ∧ KI.Own 3 w' w.heap.size v (s.bl who s.n) ∧ Ext w w' := by
  have hn := h.n1
  have KW := Blk.new w 31 who.cells
  have lw := KW.six0
  have E0 := (Ext.refl w).alloc (.cells who.cells 31)
  have HO := Lib.hid ho
  have HH := Lib.hid h
  clear ho
  go_enter Tryd.func26, Tryd.ntmps26
  go_wp2_with ((apply load_by rfl _ _ rfl _ rfl); (focus (with_reducible assumption)))
  refine (check6_yes who _ HO.out).mono ?_
  rintro e W1 ⟨rfl, q1⟩
  have E1 := E0.trans q1
  have K1 := KW.ext q1
  have c0 := (h.ext E1).c0
  clear KW lw E0 q1 h
  go_wp2_with fail
  go_loopw [7, 20] (fun v i wr => ∃ k : Nat, k ≤ s.n ∧ i = .int .i64 (k : Int) ∧ KI.Own 3 wr (w.heap.size + 1) v (s.bl who k) ∧ Ext w wr ∧ Blk wr w.heap.size 31 who.cells) (fun _ i _ => s.n - (intOf i).toNat)
  case atStart => exact ⟨0, Nat.zero_le _, rfl, Kin.Own.nil _ _, E1, K1⟩
  case round =>
    clear E1 K1
    obtain ⟨k, hk, rfl, o, Er, Kr⟩ := hrel
    have wk : IntKind.i64.wrap ((k : Int) + 1) = (k : Int) + 1 := IntWalk.i64_in _ (by omega)
    have HO1 := Lib.hid o
    have HE1 := Lib.hid Er
    have HK1 := Lib.hid Kr
    by_cases hlt : k < s.n
    case neg =>
      obtain rfl : k = s.n := by omega
      clear o Er Kr
      go_wp2_with fail
      go_returns
      exact ⟨_, rfl, HO1.out.mono (Nat.le_succ _), HE1.out⟩
    have hlt' : (k : Int) < (s.n : Int) := by omega
    have ld := (HH.out.ext Er).blk hlt
    have KZ := Blk.new wr 79 #[.int .i64 0, .int .i64 0, .int .i64 0, .int .i64 0, .int .i64 0, .int .i64 0, .int .i64 0, .int .i64 0, .bool false, .bool false, .bool false, .bool false, .bool false, .bool false, .bool false, .bool false, .int .i64 0]
    have st := KZ.store (ty := 79) (cs := s.blk k) (by simp [PS.blk]) (Tryd.sizeBlock.trans (by simp [PS.blk])) (s.blk_one k)
    have E2 : Ext wr _ := ((Ext.refl wr).alloc (.cells #[.int .i64 0, .int .i64 0, .int .i64 0, .int .i64 0, .int .i64 0, .int .i64 0, .int .i64 0, .int .i64 0, .bool false, .bool false, .bool false, .bool false, .bool false, .bool false, .bool false, .bool false, .int .i64 0] 79)).row (k := wr.heap.size) (Nat.le_refl _) (s.blk k)
    have K2 := KZ.row (s.blk k)
    clear o Er Kr KZ
    go_upto_region 8 with (first | ((apply load_by rfl _ _ rfl _ rfl); (focus (with_reducible assumption))) | ((apply store_by rfl _ _ _ rfl _ rfl); (focus (with_reducible assumption)); (focus rfl)))
    refine at_worldE (fun W => Ext wr W ∧ Blk W wr.heap.size 79 (s.blk k)) ⟨E2, K2⟩ ?_
    clear ld st E2 K2
    rintro W2 ⟨E2, K2⟩
    have cm : W2.cell? ⟨wr.heap.size, 16, none⟩ = some (.int .i64 (s.many k : Nat)) := (K2.cells 16).trans (by rw [s.blk_at k (by omega), s.cell_many])
    have la := K2.six 0 (s.own k) fun j hj => by rw [Nat.zero_add, s.blk_at k (by omega), s.cell_own k hj, Six.cells_at _ j hj]
    have lb := (HK1.out.ext E2).six0
    have lc := fun W => six_eq (s.own k) who W
    have HO2 := Lib.hid (HO1.out.ext E2)
    have HE2 := Lib.hid (HE1.out.trans E2)
    have HK2 := Lib.hid (HK1.out.ext E2)
    clear E2 K2 HO1 HE1 HK1
    by_cases hmz : s.many k = 0
    · have HNO := Lib.hid (show s.his who k = false by unfold PS.his; rw [hmz]; rfl)
      rw [hmz] at cm
      clear hmz la lb lc
      go_wp2_with (first | ((apply load_by rfl _ _ rfl _ rfl); (focus (with_reducible assumption))))
      go_roundw
      case rel => exact ⟨k + 1, by omega, by go_num, by rw [PS.bl_no HNO.out]; exact HO2.out, HE2.out, HK2.out⟩
      case measure => simp [intOf] <;> omega
    · obtain ⟨M, hM⟩ : ∃ M, s.many k = M := ⟨_, rfl⟩
      have h0 : 0 < M := by omega
      rw [hM] at cm
      have hM8 : M ≤ 8 := by have : s.many k ≤ 8 := Pl.cnt_le _ _ _; omega
      have b1 : decide (0 < (M : Int)) = true := decide_eq_true (by omega)
      have b2 : decide (0 < M) = true := decide_eq_true h0
      cases hq : sixEq (s.own k) who
      case false =>
        have HNO := Lib.hid (show s.his who k = false by unfold PS.his; rw [hq]; simp)
        rw [hq] at lc
        clear hmz hq hM
        go_wp2_with (first | ((apply load_by rfl _ _ rfl _ rfl); (focus (with_reducible assumption))))
        go_roundw
        case rel => exact ⟨k + 1, by omega, by go_num, by rw [PS.bl_no HNO.out]; exact HO2.out, HE2.out, HK2.out⟩
        case measure => simp [intOf] <;> omega
      case true =>
        have hhis : s.his who k = true := by unfold PS.his; rw [hq, hM, b2]; rfl
        rw [hq] at lc
        clear hmz hq hM
        go_wp2_with (first | ((apply load_by rfl _ _ rfl _ rfl); (focus (with_reducible assumption))) | (at_builtin; refine Halt.out ?_))
        refine Halt.mk ?_
        refine appI rfl _ _ rfl (w.heap.size + 1) u7 (s.bl who k) rfl (HO2.out.ext ((Ext.refl W2).alloc _)) _ _ _ [(k : Int)] rfl (Blk.new W2 _ _).ints1 (by have := s.bl_len who k; simp; omega) (by have := HK2.out.lt; simp; omega) ?_
        intro v3 W3 o3 _ b3
        rw [← PS.bl_yes hhis] at o3
        have HO3 := Lib.hid o3
        have HE3 := Lib.hid (Ext.trans (HE2.out.alloc _) (Ext.refl _) |>.trans (Ext.refl _) |> fun e => Below.trans e (b3.mono (by omega)))
        have HK3 := Lib.hid ((HK2.out.alloc _).below b3 (by omega))
        clear o3 b3
        go_wp2_with fail
        go_roundw
        case rel => exact ⟨k + 1, by omega, by go_num, HO3.out, HE3.out, HK3.out⟩
        case measure => simp [intOf] <;> omega
end Go.Proofs.YtapmbjmcbllalaaDoor
