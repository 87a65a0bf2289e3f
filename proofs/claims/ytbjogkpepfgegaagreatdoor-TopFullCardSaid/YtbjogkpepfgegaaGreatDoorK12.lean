/- Segments: their cells, what may be wrong with them, and the contract of seg.Check. Conditions: as each theorem states them. -/
import Derived.Test.YtbjogkpepfgegaaGreatDoorK01
namespace Go.Proofs.YtbjogkpepfgegaaGreatDoor
open Go.RowKit

/-- A segment's numbers. -/
structure Sg where
  kind : Int
  frm : Int
  to : Int
  seq : Int
  ack : Int
  flags : Int
  win : Int
def Sg.cells (s : Sg) (d : Value) : Array Value := #[.int .i64 s.kind, .int .i64 s.frm, .int .i64 s.to, .int .i64 s.seq, .int .i64 s.ack, .int .i64 s.flags, .int .i64 s.win, d]
abbrev Sg.v (s : Sg) (d : Value) : Value := .agg (s.cells d)
namespace Pl
def Word (n : Int) : Prop := 0 ≤ n ∧ n ≤ 65535
instance (n : Int) : Decidable (Word n) := by unfold Word; infer_instance
/-- What is wrong with a segment of n bytes; 0: nothing. -/
def segFault (s : Sg) (n : Nat) : Int :=
  if ¬ (s.kind = 6 ∨ s.kind = 17) ∨ ¬ Word s.frm ∨ ¬ Word s.to then 1
  else if s.kind = 6 ∧ (s.seq < 0 ∨ 4294967296 ≤ s.seq ∨ s.ack < 0 ∨ 4294967296 ≤ s.ack ∨ s.flags < 0 ∨ 31 < s.flags ∨ ¬ Word s.win) then 1
  else if s.kind = 17 ∧ (s.seq ≠ 0 ∨ s.ack ≠ 0 ∨ s.flags ≠ 0 ∨ s.win ≠ 0) then 2
  else if 300 < n then 3 else 0
end Pl
/-- An error of a number, none of 0. -/
def errOf (q : Int) : Value := if q = 0 then .nilIface else errv q
theorem errOf_zero : errOf 0 = .nilIface := rfl
theorem errOf_ne {q : Int} (h : q ≠ 0) : errOf q = errv q := by unfold errOf; rw [if_neg h]

theorem Tryz.sizeSeg : (Tryz.prog.info? 40).map (·.size) = some 8 := by kernel_rfl
section
variable {w : World} {g : Nat} {t : TypeId} {s : Sg} {d : Value}
theorem Blk.seg (h : Blk w g t (s.cells d)) : (Instr.loadAt 40 (.pointer (some ⟨g, 0, none⟩))).run Tryz.prog w = .ok (.agg (s.cells d)) w := by
  have := run_loadAt_mid (P := Tryz.prog) w g 0 40 (s.cells d).toList _ (fun j v hv => by
    rw [Array.getElem?_toList] at hv
    rw [h.cells, Nat.zero_add]; exact hv) Tryz.underlying40 rfl Tryz.sizeSeg
  rw [Array.toArray_toList] at this
  exact this
theorem Blk.sg (h : Blk w g t (s.cells d)) : w.cell? ⟨g, 0, none⟩ = some (.int .i64 s.kind) ∧ w.cell? ⟨g, 1, none⟩ = some (.int .i64 s.frm) ∧ w.cell? ⟨g, 2, none⟩ = some (.int .i64 s.to) ∧ w.cell? ⟨g, 3, none⟩ = some (.int .i64 s.seq) ∧
    w.cell? ⟨g, 4, none⟩ = some (.int .i64 s.ack) ∧ w.cell? ⟨g, 5, none⟩ = some (.int .i64 s.flags) ∧ w.cell? ⟨g, 6, none⟩ = some (.int .i64 s.win) ∧ w.cell? ⟨g, 7, none⟩ = some d :=
  ⟨h.cells 0, h.cells 1, h.cells 2, h.cells 3, h.cells 4, h.cells 5, h.cells 6, h.cells 7⟩
end

theorem known_any (k : Int) (w : World) : Calls Tryz.prog 79 #[.int .i64 k] w fun e w' => e = .returned (.bool (k == 6 || k == 17)) ∧ w = w' := by
  by_cases h : k = 6
  · have h6 : (k == 6) = true := by simpa using h
    clear h
    go_enter Tryz.func79, Tryz.ntmps79
    go_wp2
    go_ret
    exact ⟨by simp [h6], rfl⟩
  · have h6 : (k == 6) = false := by simpa using h
    clear h
    go_enter Tryz.func79, Tryz.ntmps79
    go_wp2
    go_ret
    exact ⟨by simp [h6], rfl⟩
theorem sword_yes (a : Int) (w : World) (h : Pl.Word a) : Calls Tryz.prog 57 #[.int .i64 a] w fun e w' => e = .returned (.bool true) ∧ w = w' := by
  obtain ⟨h0, h1⟩ := h
  go_enter Tryz.func57, Tryz.ntmps57
  go_wp2
  go_ret
  exact ⟨rfl, rfl⟩
theorem sword_no (a : Int) (w : World) (h : ¬ Pl.Word a) : Calls Tryz.prog 57 #[.int .i64 a] w fun e w' => e = .returned (.bool false) ∧ w = w' := by
  by_cases h0 : 0 ≤ a
  · have h1 : ¬ a ≤ 65535 := fun h1 => h ⟨h0, h1⟩
    clear h
    go_enter Tryz.func57, Tryz.ntmps57
    go_wp2
    go_ret
    exact ⟨rfl, rfl⟩
  · clear h
    go_enter Tryz.func57, Tryz.ntmps57
    go_wp2
    go_ret
    exact ⟨rfl, rfl⟩

/-- What Check gives. -/
def SegChk (s : Sg) (n : Nat) (e : Ending) : Prop := e = .returned (errOf (Pl.segFault s n))
theorem segChk_of {s : Sg} {n : Nat} {q : Int} (h : Pl.segFault s n = q) (v : Value) (hv : errOf q = v) : SegChk s n (.returned v) := by unfold SegChk; rw [h, hv]

set_option maxRecDepth 100000 in
set_option maxHeartbeats 8000000 in
theorem scheck_any (s : Sg) (a : Option Addr) (n c : Nat) (w : World) :
    Calls Tryz.prog 56 #[s.v (.slice a n c)] w fun e w' => SegChk s n e ∧ Ext w w' := by
  have K0 := Blk.new w 40 (s.cells (.slice a n c))
  have E0 : Ext w (w.alloc (.cells (s.cells (.slice a n c)) 40)) := (Ext.refl w).alloc _
  obtain ⟨c0, c1, c2, c3, c4, c5, c6, c7⟩ := K0.sg
  clear K0
  by_cases hk : s.kind = 6 ∨ s.kind = 17
  case neg =>
    have hf : Pl.segFault s n = 1 := by unfold Pl.segFault; rw [if_pos (.inl hk)]
    have h6 : (s.kind == 6) = false := by simp; omega
    have h17 : (s.kind == 17) = false := by simp; omega
    have HF := Lib.hid hf
    clear hf hk
    go_enter Tryz.func56, Tryz.ntmps56
    go_wp2_with fail
    refine (known_any _ _).mono ?_
    rintro e w' ⟨rfl, rfl⟩
    rw [h6, h17]
    go_wp2_with fail
    go_ret
    exact ⟨segChk_of HF.out _ rfl, E0⟩
  by_cases hfr : Pl.Word s.frm
  case neg =>
    have hf : Pl.segFault s n = 1 := by unfold Pl.segFault; rw [if_pos (.inr (.inl hfr))]
    have hkk : (s.kind == 6 || s.kind == 17) = true := by simp; omega
    have HF := Lib.hid hf
    have HW := Lib.hid hfr
    clear hf hk hfr
    go_enter Tryz.func56, Tryz.ntmps56
    go_wp2_with fail
    refine (known_any _ _).mono ?_
    rintro e w' ⟨rfl, rfl⟩
    rw [hkk]
    go_wp2_with fail
    refine (sword_no _ _ HW.out).mono ?_
    rintro e w' ⟨rfl, rfl⟩
    go_wp2_with fail
    go_ret
    exact ⟨segChk_of HF.out _ rfl, E0⟩
  by_cases hto : Pl.Word s.to
  case neg =>
    have hf : Pl.segFault s n = 1 := by unfold Pl.segFault; rw [if_pos (.inr (.inr hto))]
    have hkk : (s.kind == 6 || s.kind == 17) = true := by simp; omega
    have HF := Lib.hid hf
    have HW := Lib.hid hto
    have HR := Lib.hid hfr
    clear hf hk hfr hto
    go_enter Tryz.func56, Tryz.ntmps56
    go_wp2_with fail
    refine (known_any _ _).mono ?_
    rintro e w' ⟨rfl, rfl⟩
    rw [hkk]
    go_wp2_with fail
    refine (sword_yes _ _ HR.out).mono ?_
    rintro e w' ⟨rfl, rfl⟩
    go_wp2_with fail
    refine (sword_no _ _ HW.out).mono ?_
    rintro e w' ⟨rfl, rfl⟩
    go_wp2_with fail
    go_ret
    exact ⟨segChk_of HF.out _ rfl, E0⟩
  have hkk : (s.kind == 6 || s.kind == 17) = true := by simp; omega
  have h1 : ¬ (¬ (s.kind = 6 ∨ s.kind = 17) ∨ ¬ Pl.Word s.frm ∨ ¬ Pl.Word s.to) := fun h => by
    rcases h with h | h | h
    · exact h hk
    · exact h hfr
    · exact h hto
  have HR := Lib.hid hfr
  have HT := Lib.hid hto
  clear hfr hto
  rcases hk with hk | hk
  case inl =>
    have h6 : (s.kind == 6) = true := by simpa using hk
    have h17 : (s.kind == 17) = false := by simp; omega
    by_cases g0 : 0 ≤ s.seq
    case neg =>
      have hf : Pl.segFault s n = 1 := by unfold Pl.segFault; rw [if_neg h1, if_pos ⟨hk, by omega⟩]
      have HF := Lib.hid hf
      clear hf hk h1
      go_enter Tryz.func56, Tryz.ntmps56
      go_wp2_with fail
      refine (known_any _ _).mono ?_
      rintro e w' ⟨rfl, rfl⟩
      rw [hkk]
      go_wp2_with fail
      refine (sword_yes _ _ HR.out).mono ?_
      rintro e w' ⟨rfl, rfl⟩
      go_wp2_with fail
      refine (sword_yes _ _ HT.out).mono ?_
      rintro e w' ⟨rfl, rfl⟩
      go_wp2_with fail
      go_ret
      exact ⟨segChk_of HF.out _ rfl, E0⟩
    by_cases g1 : s.seq < 4294967296
    case neg =>
      have hf : Pl.segFault s n = 1 := by unfold Pl.segFault; rw [if_neg h1, if_pos ⟨hk, by omega⟩]
      have HF := Lib.hid hf
      clear hf hk h1
      go_enter Tryz.func56, Tryz.ntmps56
      go_wp2_with fail
      refine (known_any _ _).mono ?_
      rintro e w' ⟨rfl, rfl⟩
      rw [hkk]
      go_wp2_with fail
      refine (sword_yes _ _ HR.out).mono ?_
      rintro e w' ⟨rfl, rfl⟩
      go_wp2_with fail
      refine (sword_yes _ _ HT.out).mono ?_
      rintro e w' ⟨rfl, rfl⟩
      go_wp2_with fail
      go_ret
      exact ⟨segChk_of HF.out _ rfl, E0⟩
    by_cases g2 : 0 ≤ s.ack
    case neg =>
      have hf : Pl.segFault s n = 1 := by unfold Pl.segFault; rw [if_neg h1, if_pos ⟨hk, by omega⟩]
      have HF := Lib.hid hf
      clear hf hk h1
      go_enter Tryz.func56, Tryz.ntmps56
      go_wp2_with fail
      refine (known_any _ _).mono ?_
      rintro e w' ⟨rfl, rfl⟩
      rw [hkk]
      go_wp2_with fail
      refine (sword_yes _ _ HR.out).mono ?_
      rintro e w' ⟨rfl, rfl⟩
      go_wp2_with fail
      refine (sword_yes _ _ HT.out).mono ?_
      rintro e w' ⟨rfl, rfl⟩
      go_wp2_with fail
      go_ret
      exact ⟨segChk_of HF.out _ rfl, E0⟩
    by_cases g3 : s.ack < 4294967296
    case neg =>
      have hf : Pl.segFault s n = 1 := by unfold Pl.segFault; rw [if_neg h1, if_pos ⟨hk, by omega⟩]
      have HF := Lib.hid hf
      clear hf hk h1
      go_enter Tryz.func56, Tryz.ntmps56
      go_wp2_with fail
      refine (known_any _ _).mono ?_
      rintro e w' ⟨rfl, rfl⟩
      rw [hkk]
      go_wp2_with fail
      refine (sword_yes _ _ HR.out).mono ?_
      rintro e w' ⟨rfl, rfl⟩
      go_wp2_with fail
      refine (sword_yes _ _ HT.out).mono ?_
      rintro e w' ⟨rfl, rfl⟩
      go_wp2_with fail
      go_ret
      exact ⟨segChk_of HF.out _ rfl, E0⟩
    by_cases g4 : 0 ≤ s.flags
    case neg =>
      have hf : Pl.segFault s n = 1 := by unfold Pl.segFault; rw [if_neg h1, if_pos ⟨hk, by omega⟩]
      have HF := Lib.hid hf
      clear hf hk h1
      go_enter Tryz.func56, Tryz.ntmps56
      go_wp2_with fail
      refine (known_any _ _).mono ?_
      rintro e w' ⟨rfl, rfl⟩
      rw [hkk]
      go_wp2_with fail
      refine (sword_yes _ _ HR.out).mono ?_
      rintro e w' ⟨rfl, rfl⟩
      go_wp2_with fail
      refine (sword_yes _ _ HT.out).mono ?_
      rintro e w' ⟨rfl, rfl⟩
      go_wp2_with fail
      go_ret
      exact ⟨segChk_of HF.out _ rfl, E0⟩
    by_cases g5 : s.flags ≤ 31
    case neg =>
      have hf : Pl.segFault s n = 1 := by unfold Pl.segFault; rw [if_neg h1, if_pos ⟨hk, by omega⟩]
      have HF := Lib.hid hf
      clear hf hk h1
      go_enter Tryz.func56, Tryz.ntmps56
      go_wp2_with fail
      refine (known_any _ _).mono ?_
      rintro e w' ⟨rfl, rfl⟩
      rw [hkk]
      go_wp2_with fail
      refine (sword_yes _ _ HR.out).mono ?_
      rintro e w' ⟨rfl, rfl⟩
      go_wp2_with fail
      refine (sword_yes _ _ HT.out).mono ?_
      rintro e w' ⟨rfl, rfl⟩
      go_wp2_with fail
      go_ret
      exact ⟨segChk_of HF.out _ rfl, E0⟩
    by_cases hw : Pl.Word s.win
    case neg =>
      have hf : Pl.segFault s n = 1 := by unfold Pl.segFault; rw [if_neg h1, if_pos ⟨hk, .inr (.inr (.inr (.inr (.inr (.inr hw)))))⟩]
      have HF := Lib.hid hf
      have HW := Lib.hid hw
      clear hf hk h1 hw
      go_enter Tryz.func56, Tryz.ntmps56
      go_wp2_with fail
      refine (known_any _ _).mono ?_
      rintro e w' ⟨rfl, rfl⟩
      rw [hkk]
      go_wp2_with fail
      refine (sword_yes _ _ HR.out).mono ?_
      rintro e w' ⟨rfl, rfl⟩
      go_wp2_with fail
      refine (sword_yes _ _ HT.out).mono ?_
      rintro e w' ⟨rfl, rfl⟩
      go_wp2_with fail
      refine (sword_no _ _ HW.out).mono ?_
      rintro e w' ⟨rfl, rfl⟩
      go_wp2_with fail
      go_ret
      exact ⟨segChk_of HF.out _ rfl, E0⟩
    have h2 : ¬ (s.kind = 6 ∧ (s.seq < 0 ∨ 4294967296 ≤ s.seq ∨ s.ack < 0 ∨ 4294967296 ≤ s.ack ∨ s.flags < 0 ∨ 31 < s.flags ∨ ¬ Pl.Word s.win)) := by
      rintro ⟨_, h | h | h | h | h | h | h⟩
      · omega
      · omega
      · omega
      · omega
      · omega
      · omega
      · exact h hw
    have h3 : ¬ (s.kind = 17 ∧ (s.seq ≠ 0 ∨ s.ack ≠ 0 ∨ s.flags ≠ 0 ∨ s.win ≠ 0)) := fun h => by omega
    have HW := Lib.hid hw
    by_cases hn : n ≤ 300
    case neg =>
      have hf : Pl.segFault s n = 3 := by unfold Pl.segFault; rw [if_neg h1, if_neg h2, if_neg h3, if_pos (by omega)]
      have HF := Lib.hid hf
      clear hf hk h1 h2 h3 hw
      go_enter Tryz.func56, Tryz.ntmps56
      go_wp2_with fail
      refine (known_any _ _).mono ?_
      rintro e w' ⟨rfl, rfl⟩
      rw [hkk]
      go_wp2_with fail
      refine (sword_yes _ _ HR.out).mono ?_
      rintro e w' ⟨rfl, rfl⟩
      go_wp2_with fail
      refine (sword_yes _ _ HT.out).mono ?_
      rintro e w' ⟨rfl, rfl⟩
      go_wp2_with fail
      refine (sword_yes _ _ HW.out).mono ?_
      rintro e w' ⟨rfl, rfl⟩
      go_wp2_with fail
      go_ret
      exact ⟨segChk_of HF.out _ rfl, E0⟩
    have hf : Pl.segFault s n = 0 := by unfold Pl.segFault; rw [if_neg h1, if_neg h2, if_neg h3, if_neg (by omega)]
    have HF := Lib.hid hf
    clear hf hk h1 h2 h3 hw
    go_enter Tryz.func56, Tryz.ntmps56
    go_wp2_with fail
    refine (known_any _ _).mono ?_
    rintro e w' ⟨rfl, rfl⟩
    rw [hkk]
    go_wp2_with fail
    refine (sword_yes _ _ HR.out).mono ?_
    rintro e w' ⟨rfl, rfl⟩
    go_wp2_with fail
    refine (sword_yes _ _ HT.out).mono ?_
    rintro e w' ⟨rfl, rfl⟩
    go_wp2_with fail
    refine (sword_yes _ _ HW.out).mono ?_
    rintro e w' ⟨rfl, rfl⟩
    go_wp2_with fail
    go_ret
    exact ⟨segChk_of HF.out _ rfl, E0⟩
  case inr =>
    have h6 : (s.kind == 6) = false := by simp; omega
    have h17 : (s.kind == 17) = true := by simpa using hk
    have h2 : ¬ (s.kind = 6 ∧ (s.seq < 0 ∨ 4294967296 ≤ s.seq ∨ s.ack < 0 ∨ 4294967296 ≤ s.ack ∨ s.flags < 0 ∨ 31 < s.flags ∨ ¬ Pl.Word s.win)) := fun h => by omega
    by_cases z0 : s.seq = 0
    case neg =>
      have y0 : (s.seq != 0) = true := by simpa using z0
      have hf : Pl.segFault s n = 2 := by unfold Pl.segFault; rw [if_neg h1, if_neg h2, if_pos ⟨hk, by omega⟩]
      have HF := Lib.hid hf
      clear hf hk h1 h2 z0
      go_enter Tryz.func56, Tryz.ntmps56
      go_wp2_with fail
      refine (known_any _ _).mono ?_
      rintro e w' ⟨rfl, rfl⟩
      rw [hkk]
      go_wp2_with fail
      refine (sword_yes _ _ HR.out).mono ?_
      rintro e w' ⟨rfl, rfl⟩
      go_wp2_with fail
      refine (sword_yes _ _ HT.out).mono ?_
      rintro e w' ⟨rfl, rfl⟩
      go_wp2_with fail
      go_ret
      exact ⟨segChk_of HF.out _ rfl, E0⟩
    have y0 : (s.seq != 0) = false := by simpa using z0
    by_cases z1 : s.ack = 0
    case neg =>
      have y1 : (s.ack != 0) = true := by simpa using z1
      have hf : Pl.segFault s n = 2 := by unfold Pl.segFault; rw [if_neg h1, if_neg h2, if_pos ⟨hk, by omega⟩]
      have HF := Lib.hid hf
      clear hf hk h1 h2 z1 z0
      go_enter Tryz.func56, Tryz.ntmps56
      go_wp2_with fail
      refine (known_any _ _).mono ?_
      rintro e w' ⟨rfl, rfl⟩
      rw [hkk]
      go_wp2_with fail
      refine (sword_yes _ _ HR.out).mono ?_
      rintro e w' ⟨rfl, rfl⟩
      go_wp2_with fail
      refine (sword_yes _ _ HT.out).mono ?_
      rintro e w' ⟨rfl, rfl⟩
      go_wp2_with fail
      go_ret
      exact ⟨segChk_of HF.out _ rfl, E0⟩
    have y1 : (s.ack != 0) = false := by simpa using z1
    by_cases z2 : s.flags = 0
    case neg =>
      have y2 : (s.flags != 0) = true := by simpa using z2
      have hf : Pl.segFault s n = 2 := by unfold Pl.segFault; rw [if_neg h1, if_neg h2, if_pos ⟨hk, by omega⟩]
      have HF := Lib.hid hf
      clear hf hk h1 h2 z2 z0 z1
      go_enter Tryz.func56, Tryz.ntmps56
      go_wp2_with fail
      refine (known_any _ _).mono ?_
      rintro e w' ⟨rfl, rfl⟩
      rw [hkk]
      go_wp2_with fail
      refine (sword_yes _ _ HR.out).mono ?_
      rintro e w' ⟨rfl, rfl⟩
      go_wp2_with fail
      refine (sword_yes _ _ HT.out).mono ?_
      rintro e w' ⟨rfl, rfl⟩
      go_wp2_with fail
      go_ret
      exact ⟨segChk_of HF.out _ rfl, E0⟩
    have y2 : (s.flags != 0) = false := by simpa using z2
    by_cases z3 : s.win = 0
    case neg =>
      have y3 : (s.win != 0) = true := by simpa using z3
      have hf : Pl.segFault s n = 2 := by unfold Pl.segFault; rw [if_neg h1, if_neg h2, if_pos ⟨hk, by omega⟩]
      have HF := Lib.hid hf
      clear hf hk h1 h2 z3 z0 z1 z2
      go_enter Tryz.func56, Tryz.ntmps56
      go_wp2_with fail
      refine (known_any _ _).mono ?_
      rintro e w' ⟨rfl, rfl⟩
      rw [hkk]
      go_wp2_with fail
      refine (sword_yes _ _ HR.out).mono ?_
      rintro e w' ⟨rfl, rfl⟩
      go_wp2_with fail
      refine (sword_yes _ _ HT.out).mono ?_
      rintro e w' ⟨rfl, rfl⟩
      go_wp2_with fail
      go_ret
      exact ⟨segChk_of HF.out _ rfl, E0⟩
    have y3 : (s.win != 0) = false := by simpa using z3
    have h3 : ¬ (s.kind = 17 ∧ (s.seq ≠ 0 ∨ s.ack ≠ 0 ∨ s.flags ≠ 0 ∨ s.win ≠ 0)) := fun h => by omega
    clear z0 z1 z2 z3
    by_cases hn : n ≤ 300
    case neg =>
      have hf : Pl.segFault s n = 3 := by unfold Pl.segFault; rw [if_neg h1, if_neg h2, if_neg h3, if_pos (by omega)]
      have HF := Lib.hid hf
      clear hf hk h1 h2 h3
      go_enter Tryz.func56, Tryz.ntmps56
      go_wp2_with fail
      refine (known_any _ _).mono ?_
      rintro e w' ⟨rfl, rfl⟩
      rw [hkk]
      go_wp2_with fail
      refine (sword_yes _ _ HR.out).mono ?_
      rintro e w' ⟨rfl, rfl⟩
      go_wp2_with fail
      refine (sword_yes _ _ HT.out).mono ?_
      rintro e w' ⟨rfl, rfl⟩
      go_wp2_with fail
      go_ret
      exact ⟨segChk_of HF.out _ rfl, E0⟩
    have hf : Pl.segFault s n = 0 := by unfold Pl.segFault; rw [if_neg h1, if_neg h2, if_neg h3, if_neg (by omega)]
    have HF := Lib.hid hf
    clear hf hk h1 h2 h3
    go_enter Tryz.func56, Tryz.ntmps56
    go_wp2_with fail
    refine (known_any _ _).mono ?_
    rintro e w' ⟨rfl, rfl⟩
    rw [hkk]
    go_wp2_with fail
    refine (sword_yes _ _ HR.out).mono ?_
    rintro e w' ⟨rfl, rfl⟩
    go_wp2_with fail
    refine (sword_yes _ _ HT.out).mono ?_
    rintro e w' ⟨rfl, rfl⟩
    go_wp2_with fail
    go_ret
    exact ⟨segChk_of HF.out _ rfl, E0⟩
end Go.Proofs.YtbjogkpepfgegaaGreatDoor
