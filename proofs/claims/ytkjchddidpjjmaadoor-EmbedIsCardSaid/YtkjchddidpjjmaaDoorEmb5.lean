/- package embed: Into and Out as functions of their arguments; what goes in comes out. Conditions: as each theorem states them. -/
import Derived.Test.YtkjchddidpjjmaaDoorEmb4
import Derived.Test.YtkjchddidpjjmaaDoorIn
namespace Go.Proofs.YtkjchddidpjjmaaDoor
open Go.RowKit Go.Shelf
namespace Pl
def intoErr (s : Six) (n four : Int) : Int := if pfxErr s n = 0 then (if 0 ≤ four ∧ four < 4294967296 then 0 else 1) else pfxErr s n
def into (s : Six) (n f : Int) : Six := if intoErr s n f = 0 then sixAt (put (two s.l) (four f) (spots (n / 8).toNat)) else ⟨0, 0, 0, 0, 0, 0, 0, 0⟩
theorem pfx_zero {s : Six} {n : Int} (h : pfxErr s n = 0) : okS s = true ∧ longB n = true ∧ clean (two s.l) n := by
  unfold pfxErr at h
  by_cases h1 : okS s = true
  · rw [if_pos h1] at h
    by_cases h2 : longB n = true
    · rw [if_pos h2] at h
      by_cases h3 : clean (two s.l) n
      · exact ⟨h1, h2, h3⟩
      · rw [if_neg h3] at h; exact absurd h (by decide)
    · rw [if_neg h2] at h; exact absurd h (by decide)
  · rw [if_neg h1] at h; exact absurd h (by decide)
theorem longB_nat {n : Int} (h : longB n = true) : ∃ m : Nat, 4 ≤ m ∧ m ≤ 12 ∧ n = 8 * (m : Int) ∧ (n / 8).toNat = m := by
  have hn := longB_yes h
  exact ⟨(n / 8).toNat, by omega, by omega, by omega, rfl⟩
end Pl
set_option maxRecDepth 100000 in
set_option maxHeartbeats 1000000 in
theorem into_no (s : Six) (n four : Int) (w : World) (h : Pl.intoErr s n four ≠ 0) :
    Calls Tryd.prog 14 #[s.v, .int .i64 n, .int .i64 four] w fun e w' => e = .returned (.tuple #[(⟨0, 0, 0, 0, 0, 0, 0, 0⟩ : Six).v, erv (Pl.intoErr s n four)]) ∧ Ext w w' := by
  have K0 := (Blk.new w 23 s.cells).alloc (.cells zc6 23)
  have KR := Blk.at (n := w.heap.size + 1) (w.alloc (.cells s.cells 23)) 23 zc6 (by simp)
  have E0 : Ext w ((w.alloc (.cells s.cells 23)).alloc (.cells zc6 23)) := ((Ext.refl w).alloc _).alloc _
  have l0 := K0.six0
  have hc := fun W => echeck_any s n W
  by_cases hp : Pl.pfxErr s n = 0
  · have hf : ¬ (0 ≤ four ∧ four < 4294967296) := fun hf => h (by unfold Pl.intoErr; rw [if_pos hp, if_pos hf])
    have hE : Pl.intoErr s n four = 1 := by unfold Pl.intoErr; rw [if_pos hp, if_neg hf]
    simp only [hp, erv_zero] at hc
    have HC := Lib.hid hc
    have HF := Lib.hid hf
    have HE := Lib.hid hE
    clear hc hp hf hE h
    go_enter Tryd.func14, Tryd.ntmps14
    go_wp2_with ((apply load_by rfl _ _ rfl _ rfl); (focus (with_reducible assumption)))
    refine (HC.out _).mono ?_
    rintro e W1 ⟨rfl, q1⟩
    have R1 := KR.ext q1
    have E1 := E0.trans q1
    clear l0 K0 KR E0 q1
    go_wp2_with fail
    refine (is_no four _ HF.out).mono ?_
    rintro e w' ⟨rfl, rfl⟩
    have s6 : (Instr.storeAt 23 (.pointer (some ⟨w.heap.size + 1, 0, none⟩)) (.agg zc6)).run Tryd.prog W1 = .ok () (W1.setRow (w.heap.size + 1) zc6) := R1.store rfl Tryd.size6 (by simp [Value.oneCell'])
    go_wp2_with ((apply store_by rfl _ _ _ rfl _ rfl); (focus (with_reducible assumption)); (focus rfl))
    refine bodyPost_ret (results_cell2 Tryd.results14 _ _ (w.heap.size + 1) 23 zc6 _ rfl (R1.row zc6) Tryd.underlying23 rfl Tryd.size6) rfl ⟨by rw [HE.out]; rfl, E1.row (by omega) _⟩
  · have hE : Pl.intoErr s n four = Pl.pfxErr s n := by unfold Pl.intoErr; rw [if_neg hp]
    simp only [erv_ne hp] at hc
    rw [hE, erv_ne hp]
    have HC := Lib.hid hc
    generalize Pl.pfxErr s n = q at *
    clear hc hp hE h
    go_enter Tryd.func14, Tryd.ntmps14
    go_wp2_with ((apply load_by rfl _ _ rfl _ rfl); (focus (with_reducible assumption)))
    refine (HC.out _).mono ?_
    rintro e W1 ⟨rfl, q1⟩
    have R1 := KR.ext q1
    have E1 := E0.trans q1
    clear l0 K0 KR E0 q1
    have s6 : (Instr.storeAt 23 (.pointer (some ⟨w.heap.size + 1, 0, none⟩)) (.agg zc6)).run Tryd.prog W1 = .ok () (W1.setRow (w.heap.size + 1) zc6) := R1.store rfl Tryd.size6 (by simp [Value.oneCell'])
    unfold errv
    go_wp2_with ((apply store_by rfl _ _ _ rfl _ rfl); (focus (with_reducible assumption)); (focus rfl))
    refine bodyPost_ret (results_cell2 Tryd.results14 _ _ (w.heap.size + 1) 23 zc6 _ rfl (R1.row zc6) Tryd.underlying23 rfl Tryd.size6) rfl ⟨rfl, E1.row (by omega) _⟩
/-- Into, of any arguments. -/
theorem into_any (s : Six) (n four : Int) (w : World) :
    Calls Tryd.prog 14 #[s.v, .int .i64 n, .int .i64 four] w fun e w' => e = .returned (.tuple #[(Pl.into s n four).v, erv (Pl.intoErr s n four)]) ∧ Ext w w' := by
  by_cases h : Pl.intoErr s n four = 0
  · have hp : Pl.pfxErr s n = 0 := by
      unfold Pl.intoErr at h
      by_cases hp : Pl.pfxErr s n = 0
      · exact hp
      · rw [if_neg hp] at h; exact absurd h hp
    have hf : 0 ≤ four ∧ four < 4294967296 := by
      unfold Pl.intoErr at h
      rw [if_pos hp] at h
      by_cases hf : 0 ≤ four ∧ four < 4294967296
      · exact hf
      · rw [if_neg hf] at h; exact absurd h (by decide)
    have hi : Pl.into s n four = sixAt (Pl.put (Pl.two s.l) (Pl.four four) (Pl.spots (n / 8).toNat)) := by unfold Pl.into; rw [if_pos h]
    obtain ⟨hs, hl, _⟩ := Pl.pfx_zero hp
    obtain ⟨m, h4, h12, hn, hm⟩ := Pl.longB_nat hl
    rw [h, hi, hm]
    subst hn
    exact into_ok s m four w hs ⟨h4, h12⟩ hp hf
  · have hi : Pl.into s n four = ⟨0, 0, 0, 0, 0, 0, 0, 0⟩ := by unfold Pl.into; rw [if_neg h]
    rw [hi]
    exact into_no s n four w h
/-- Out, of any arguments. -/
theorem out_any (s : Six) (n : Int) (w : World) :
    Calls Tryd.prog 18 #[s.v, .int .i64 n] w fun e w' => e = .returned (.tuple #[.int .i64 (Pl.outVal s n), erv (Pl.outErr s n)]) ∧ Ext w w' := by
  by_cases h : okS s = true ∧ Pl.longB n = true
  · obtain ⟨m, h4, h12, hn, _⟩ := Pl.longB_nat h.2
    obtain ⟨hs, hl⟩ := h
    subst hn
    exact out_ok s m w hs ⟨h4, h12⟩ hl
  · have he : Pl.outErr s n = 1 := by
      unfold Pl.outErr
      by_cases hs : okS s = true
      · rw [if_pos hs, if_neg (fun hl => h ⟨hs, hl⟩)]
      · rw [if_neg hs]
    have hv : Pl.outVal s n = 0 := by unfold Pl.outVal; rw [he]; rfl
    rw [he, hv]
    exact out_no s n w h
end Go.Proofs.YtkjchddidpjjmaaDoor
