/- The contracts of seg.number and of seg.Decode of bytes of no form. Conditions: as each theorem states them. -/
import Derived.Test.YtoaahiclmodcgaaSegE
import Derived.Test.YtoaahiclmodcgaaShift
import Derived.Test.YtoaahiclmodcgaaTail
import Derived.Test.YtoaahiclmodcgaaCopy
import Derived.Test.YtoaahiclmodcgaaStr
import Derived.Deep.RegionLaw
import Derived.Deep.RegionHeld3
namespace Go.Proofs.Ytoaahiclmodcgaa
open Go.RowKit
set_option maxRecDepth 100000 in
set_option maxHeartbeats 800000 in
theorem snumber_any (a : Option Addr) (n c : Nat) (xs : List Int) (w : World) (hr : Ints .u8 w a n xs) (hb : Pl.IsB xs) (hn : 2 ≤ n) :
    Calls Try.prog 54 #[.slice a n c] w fun e w' => e = .returned (.int .i64 (Pl.at2 xs 0)) ∧ ∃ q, w' = w.drewN q := by
  obtain ⟨b, off, rfl, _, hc⟩ := hr.at (by omega)
  have h0 : w.cell? ⟨b, off, none⟩ = _ := hc 0 (by omega)
  have h1 := hc 1 (by omega)
  have b0 := hb.getD 0
  have b1 := hb.getD 1
  have HV := Lib.hid (show Pl.at2 xs 0 = xs.getD 0 0 * 256 + xs.getD 1 0 from rfl)
  generalize xs.getD 0 0 = x at *
  generalize xs.getD 1 0 = y at *
  obtain ⟨x0, x1⟩ := b0
  obtain ⟨y0, y1⟩ := b1
  have l0 : (0 : Int) < (n : Int) := by omega
  have l1 : (1 : Int) < (n : Int) := by omega
  clear hc hr hb
  go_enter Try.func54, Try.ntmps54
  go_wp2_with fail
  go_quiet (fail)
  go_wp2
  go_ret
  refine ⟨ret_int ?_, nq, rfl⟩
  rw [HV.out, or8 (x := x * 256) (y := y) (by omega) (by omega) (by omega) (by omega) (by omega)]

/-- The segment, its bytes. -/
def Pl.segV (k : Int) (xs : List Int) (over : Int) : Sg := if Pl.segQ k xs over = 0 then Pl.decSeg k xs else ⟨0, 0, 0, 0, 0, 0, 0⟩
def Pl.segD (k : Int) (xs : List Int) (over : Int) : List Int := if Pl.segQ k xs over = 0 then xs.drop (Pl.segSize k) else []
/-- What Decode gives. -/
def DecGot (k : Int) (xs : List Int) (over : Int) (w : World) (e : Ending) (w' : World) : Prop :=
  ∃ v, e = .returned (.tuple #[(Pl.segV k xs over).v v, erv (Pl.segQ k xs over)]) ∧ Own w' w.heap.size v (Pl.segD k xs over) ∧ Ext w w'
theorem decGot_bad {k over q : Int} {xs : List Int} {w w' : World} (h : Pl.segQ k xs over = q) (hq : q ≠ 0) (he : Ext w w') : DecGot k xs over w (.returned (.tuple #[.agg #[.int .i64 0, .int .i64 0, .int .i64 0, .int .i64 0, .int .i64 0, .int .i64 0, .int .i64 0, .slice none 0 0], errv q])) w' := by
  refine ⟨.slice none 0 0, ?_, ?_, he⟩
  · unfold Pl.segV
    rw [h, if_neg hq, erv_ne hq]
    rfl
  · unfold Pl.segD
    rw [h, if_neg hq]
    exact Own.nil _ _

set_option maxRecDepth 100000 in
set_option maxHeartbeats 2000000 in
theorem sdecode_bad (k : Int) (a : Option Addr) (n c : Nat) (xs : List Int) (over : Int) (w : World) (h : ¬ (k = 6 ∨ k = 17) ∨ ¬ Pl.Word over) :
    Calls Try.prog 51 #[.int .i64 k, .slice a n c, .int .i64 over] w (DecGot k xs over w) := by
  have HQ := Lib.hid (show Pl.segQ k xs over = 1 by unfold Pl.segQ; rw [if_pos h])
  have KR := Blk.new w 47 #[.int .i64 0, .int .i64 0, .int .i64 0, .int .i64 0, .int .i64 0, .int .i64 0, .int .i64 0, .slice none 0 0]
  have E0 : Ext w (w.alloc (.cells #[.int .i64 0, .int .i64 0, .int .i64 0, .int .i64 0, .int .i64 0, .int .i64 0, .int .i64 0, .slice none 0 0] 47)) := (Ext.refl w).alloc _
  have s0 := sto KR ⟨0, 0, 0, 0, 0, 0, 0⟩ none 0 0
  by_cases hk : k = 6 ∨ k = 17
  case neg =>
    have hkk : (k == 6 || k == 17) = false := by simp; omega
    clear h hk
    go_enter Try.func51, Try.ntmps51
    go_wp2_with fail
    refine (known_any _ _).mono ?_
    rintro e w' ⟨rfl, rfl⟩
    rw [hkk]
    go_wp2_with ((apply store_by rfl _ _ _ rfl _ rfl); (focus (with_reducible assumption)); (focus rfl))
    refine bodyPost_ret (results_cell2 Try.results51 _ _ w.heap.size 47 #[.int .i64 0, .int .i64 0, .int .i64 0, .int .i64 0, .int .i64 0, .int .i64 0, .int .i64 0, .slice none 0 0] _ rfl (KR.row _) Try.underlying47 rfl Try.sizeSeg) rfl (decGot_bad HQ.out (by decide) (E0.row (Nat.le_refl _) _))
  have hkk : (k == 6 || k == 17) = true := by simp; omega
  have HO := Lib.hid (show ¬ Pl.Word over from fun ho => by rcases h with h | h; exact h hk; exact h ho)
  clear h hk
  go_enter Try.func51, Try.ntmps51
  go_wp2_with fail
  refine (known_any _ _).mono ?_
  rintro e w' ⟨rfl, rfl⟩
  rw [hkk]
  go_wp2_with fail
  refine (sword_no over _ HO.out).mono ?_
  rintro e w' ⟨rfl, rfl⟩
  go_wp2_with ((apply store_by rfl _ _ _ rfl _ rfl); (focus (with_reducible assumption)); (focus rfl))
  refine bodyPost_ret (results_cell2 Try.results51 _ _ w.heap.size 47 #[.int .i64 0, .int .i64 0, .int .i64 0, .int .i64 0, .int .i64 0, .int .i64 0, .int .i64 0, .slice none 0 0] _ rfl (KR.row _) Try.underlying47 rfl Try.sizeSeg) rfl (decGot_bad HQ.out (by decide) (E0.row (Nat.le_refl _) _))
theorem head_6 (w : World) : Calls Try.prog 44 #[.int .i64 6] w fun e w' => e = .returned (.tuple #[.int .i64 20, .int .i64 16]) ∧ w = w' := head_any 6 w (.inl rfl)
theorem head_17 (w : World) : Calls Try.prog 44 #[.int .i64 17] w fun e w' => e = .returned (.tuple #[.int .i64 8, .int .i64 6]) ∧ w = w' := head_any 17 w (.inr rfl)

set_option maxRecDepth 100000 in
set_option maxHeartbeats 2000000 in
theorem sdecode_short6 (a : Option Addr) (n c : Nat) (xs : List Int) (over : Int) (w : World) (hr : Ints .u8 w a n xs) (ho : Pl.Word over) (h : n < 20 ∨ 320 < n) :
    Calls Try.prog 51 #[.int .i64 6, .slice a n c, .int .i64 over] w (DecGot 6 xs over w) := by
  have hl := hr.len
  have HQ := Lib.hid (show Pl.segQ 6 xs over = 5 by
    unfold Pl.segQ
    rw [if_neg (by rintro (h1 | h1); exact h1 (by decide); exact h1 ho), if_pos]
    rintro ⟨h2, _⟩
    rw [show Pl.segSize 6 = 20 from rfl] at h2
    omega)
  have KR := Blk.new w 47 #[.int .i64 0, .int .i64 0, .int .i64 0, .int .i64 0, .int .i64 0, .int .i64 0, .int .i64 0, .slice none 0 0]
  have E0 : Ext w (w.alloc (.cells #[.int .i64 0, .int .i64 0, .int .i64 0, .int .i64 0, .int .i64 0, .int .i64 0, .int .i64 0, .slice none 0 0] 47)) := (Ext.refl w).alloc _
  have s0 := sto KR ⟨0, 0, 0, 0, 0, 0, 0⟩ none 0 0
  have HO := Lib.hid ho
  clear ho
  rcases h with h | h
  · have h' : (n : Int) < 20 := by omega
    clear h
    go_enter Try.func51, Try.ntmps51
    go_wp2_with fail
    refine (known_any _ _).mono ?_
    rintro e w' ⟨rfl, rfl⟩
    go_wp2_with fail
    refine (sword_yes over _ HO.out).mono ?_
    rintro e w' ⟨rfl, rfl⟩
    go_wp2_with fail
    refine (head_6 _).mono ?_
    rintro e w' ⟨rfl, rfl⟩
    go_wp2_with ((apply store_by rfl _ _ _ rfl _ rfl); (focus (with_reducible assumption)); (focus rfl))
    refine bodyPost_ret (results_cell2 Try.results51 _ _ w.heap.size 47 #[.int .i64 0, .int .i64 0, .int .i64 0, .int .i64 0, .int .i64 0, .int .i64 0, .int .i64 0, .slice none 0 0] _ rfl (KR.row _) Try.underlying47 rfl Try.sizeSeg) rfl (decGot_bad HQ.out (by decide) (E0.row (Nat.le_refl _) _))
  · have h' : (320 : Int) < (n : Int) := by omega
    have h'' : ¬ (n : Int) < 20 := by omega
    clear h
    go_enter Try.func51, Try.ntmps51
    go_wp2_with fail
    refine (known_any _ _).mono ?_
    rintro e w' ⟨rfl, rfl⟩
    go_wp2_with fail
    refine (sword_yes over _ HO.out).mono ?_
    rintro e w' ⟨rfl, rfl⟩
    go_wp2_with fail
    refine (head_6 _).mono ?_
    rintro e w' ⟨rfl, rfl⟩
    go_wp2_with ((apply store_by rfl _ _ _ rfl _ rfl); (focus (with_reducible assumption)); (focus rfl))
    refine bodyPost_ret (results_cell2 Try.results51 _ _ w.heap.size 47 #[.int .i64 0, .int .i64 0, .int .i64 0, .int .i64 0, .int .i64 0, .int .i64 0, .int .i64 0, .slice none 0 0] _ rfl (KR.row _) Try.underlying47 rfl Try.sizeSeg) rfl (decGot_bad HQ.out (by decide) (E0.row (Nat.le_refl _) _))

set_option maxRecDepth 100000 in
set_option maxHeartbeats 2000000 in
theorem sdecode_short17 (a : Option Addr) (n c : Nat) (xs : List Int) (over : Int) (w : World) (hr : Ints .u8 w a n xs) (ho : Pl.Word over) (h : n < 8 ∨ 308 < n) :
    Calls Try.prog 51 #[.int .i64 17, .slice a n c, .int .i64 over] w (DecGot 17 xs over w) := by
  have hl := hr.len
  have HQ := Lib.hid (show Pl.segQ 17 xs over = 5 by
    unfold Pl.segQ
    rw [if_neg (by rintro (h1 | h1); exact h1 (by decide); exact h1 ho), if_pos]
    rintro ⟨h2, _⟩
    rw [show Pl.segSize 17 = 8 from rfl] at h2
    omega)
  have KR := Blk.new w 47 #[.int .i64 0, .int .i64 0, .int .i64 0, .int .i64 0, .int .i64 0, .int .i64 0, .int .i64 0, .slice none 0 0]
  have E0 : Ext w (w.alloc (.cells #[.int .i64 0, .int .i64 0, .int .i64 0, .int .i64 0, .int .i64 0, .int .i64 0, .int .i64 0, .slice none 0 0] 47)) := (Ext.refl w).alloc _
  have s0 := sto KR ⟨0, 0, 0, 0, 0, 0, 0⟩ none 0 0
  have HO := Lib.hid ho
  clear ho
  rcases h with h | h
  · have h' : (n : Int) < 8 := by omega
    clear h
    go_enter Try.func51, Try.ntmps51
    go_wp2_with fail
    refine (known_any _ _).mono ?_
    rintro e w' ⟨rfl, rfl⟩
    go_wp2_with fail
    refine (sword_yes over _ HO.out).mono ?_
    rintro e w' ⟨rfl, rfl⟩
    go_wp2_with fail
    refine (head_17 _).mono ?_
    rintro e w' ⟨rfl, rfl⟩
    go_wp2_with ((apply store_by rfl _ _ _ rfl _ rfl); (focus (with_reducible assumption)); (focus rfl))
    refine bodyPost_ret (results_cell2 Try.results51 _ _ w.heap.size 47 #[.int .i64 0, .int .i64 0, .int .i64 0, .int .i64 0, .int .i64 0, .int .i64 0, .int .i64 0, .slice none 0 0] _ rfl (KR.row _) Try.underlying47 rfl Try.sizeSeg) rfl (decGot_bad HQ.out (by decide) (E0.row (Nat.le_refl _) _))
  · have h' : (308 : Int) < (n : Int) := by omega
    have h'' : ¬ (n : Int) < 8 := by omega
    clear h
    go_enter Try.func51, Try.ntmps51
    go_wp2_with fail
    refine (known_any _ _).mono ?_
    rintro e w' ⟨rfl, rfl⟩
    go_wp2_with fail
    refine (sword_yes over _ HO.out).mono ?_
    rintro e w' ⟨rfl, rfl⟩
    go_wp2_with fail
    refine (head_17 _).mono ?_
    rintro e w' ⟨rfl, rfl⟩
    go_wp2_with ((apply store_by rfl _ _ _ rfl _ rfl); (focus (with_reducible assumption)); (focus rfl))
    refine bodyPost_ret (results_cell2 Try.results51 _ _ w.heap.size 47 #[.int .i64 0, .int .i64 0, .int .i64 0, .int .i64 0, .int .i64 0, .int .i64 0, .int .i64 0, .slice none 0 0] _ rfl (KR.row _) Try.underlying47 rfl Try.sizeSeg) rfl (decGot_bad HQ.out (by decide) (E0.row (Nat.le_refl _) _))
end Go.Proofs.Ytoaahiclmodcgaa
