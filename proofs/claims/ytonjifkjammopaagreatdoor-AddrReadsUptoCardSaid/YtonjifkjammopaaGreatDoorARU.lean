/- What the functions of texts hand back, each in one form. Conditions: as each lemma states them. -/
import Derived.Test.YtonjifkjammopaaGreatDoorRSixOf
import Derived.Test.YtonjifkjammopaaGreatDoorRFour
import Derived.Test.YtonjifkjammopaaGreatDoorRef2
import Derived.Test.YtonjifkjammopaaGreatDoorRef4
import Derived.Test.YtonjifkjammopaaGreatDoorErv
namespace Go.Proofs.YtonjifkjammopaaGreatDoor
open Go.RowKit
/-- An address' text, its bytes; what a text says as an address; a four's text; what a text says as a four: each with its fault. -/
def pU (s : Six) : ByteArray := if okS s = true then txtB (Pl.textL s.nl) else ⟨#[]⟩
def pB (s : Six) : List Int := if okS s = true then Pl.two s.l else []
def pE (s : Six) : Int := if okS s = true then 0 else 1
def pv (t : List UInt8) : Six := (parsed t).getD zSix
def pq (t : List UInt8) : Int := if (parsed t).isSome then 0 else 5
def p4 (n : Int) : ByteArray := if w32 n = true then txtB (text4 n.toNat) else ⟨#[]⟩
def e4 (n : Int) : Int := if w32 n = true then 0 else 1
def fv (t : List UInt8) : Int := ((four t).getD 0 : Nat)
def fq (t : List UInt8) : Int := if (four t).isSome then 0 else 5
theorem print_u (s : Six) (w : World) (T : Tabs w) : Calls Tryz.prog 9 #[s.v] w fun e w' => e = .returned (.tuple #[.string (pU s), erv (pE s)]) ∧ Ext w w' := by
  unfold pU pE
  cases h : okS s
  · exact (print_no s w h).mono fun e w' ⟨h1, h2⟩ => ⟨by rw [h1]; rfl, h2⟩
  · exact (print_yes s w T h).mono fun e w' ⟨h1, h2⟩ => ⟨by rw [h1]; rfl, h2⟩
theorem check_u (s : Six) (w : World) : Calls Tryz.prog 8 #[s.v] w fun e w' => e = .returned (erv (pE s)) ∧ Ext w w' := by
  unfold pE
  cases h : okS s
  · exact (check6_no s w h).mono fun e w' ⟨h1, h2⟩ => ⟨by rw [h1]; rfl, h2⟩
  · exact (check6_yes s w h).mono fun e w' ⟨h1, h2⟩ => ⟨by rw [h1]; rfl, h2⟩
set_option maxRecDepth 100000 in
theorem bytes_u (s : Six) (w : World) : Calls Tryz.prog 10 #[s.v] w fun e w' => ∃ v, e = .returned (.tuple #[v, erv (pE s)]) ∧ Own w' w.heap.size v (pB s) ∧ Ext w w' := by
  have K0 := Blk.new w 23 s.cells
  have E0 := (Ext.refl w).alloc (.cells s.cells 23)
  have ld := K0.six0
  unfold pB pE
  cases hs : okS s
  · have HS := Lib.hid hs
    clear hs K0
    go_enter Tryz.func10, Tryz.ntmps10
    go_wp2_with ((apply load_by rfl _ _ rfl _ rfl); (focus (with_reducible assumption)))
    refine (check6_no s _ HS.out).mono ?_
    rintro e W1 ⟨rfl, q1⟩
    unfold errv
    go_wp2_with fail
    go_returns
    exact ⟨_, rfl, Own.nil _ _, E0.trans q1⟩
  · have HS := Lib.hid hs
    clear hs
    go_enter Tryz.func10, Tryz.ntmps10
    go_wp2_with ((apply load_by rfl _ _ rfl _ rfl); (focus (with_reducible assumption)))
    refine (check6_yes s _ HS.out).mono ?_
    rintro e W1 ⟨rfl, q1⟩
    have E1 := E0.trans q1
    have K1 := K0.ext q1
    clear ld K0 E0 q1
    have ld := K1.six0
    go_wp2_with ((apply load_by rfl _ _ rfl _ rfl); (focus (with_reducible assumption)))
    refine (raw6_x s _ HS.out).mono ?_
    rintro e W2 ⟨v, rfl, o2, q2⟩
    have HO := Lib.hid (o2.mono E1.size)
    have HE := Lib.hid (E1.trans q2)
    clear o2 q2 ld E1 K1
    go_wp2_with fail
    go_returns
    exact ⟨v, rfl, HO.out, HE.out⟩
theorem parse_u (t : ByteArray) (w : World) (T : Tabs w) : Calls Tryz.prog 14 #[.string t] w fun e w' => e = .returned (.tuple #[(pv t.data.toList).v, erv (pq t.data.toList)]) ∧ Ext w w' := by
  refine (parse_any t w T).mono fun e w' ⟨h1, h2⟩ => ⟨?_, h2⟩
  unfold pv pq
  rcases h1 with ⟨s, hs, rfl⟩ | ⟨hs, rfl⟩ <;> rw [hs] <;> rfl
theorem rsixof_u (t : ByteArray) (w : World) (ht : t.size ≤ 1048576) : Calls Tryz.prog 13 #[.string t] w fun e w' => e = .returned (.tuple #[(pv t.data.toList).v, .int .i64 (pq t.data.toList)]) ∧ Ext w w' := by
  refine (rsixof_any t w ht).mono fun e w' ⟨h1, h2⟩ => ⟨?_, h2⟩
  unfold pv pq
  rcases h1 with ⟨s, hs, rfl⟩ | ⟨hs, rfl⟩ <;> rw [hs] <;> rfl
theorem four_u (t : ByteArray) (w : World) (T : Tabs w) (ht : t.size ≤ 1048576) : Calls Tryz.prog 19 #[.string t] w fun e w' => e = .returned (.tuple #[.int .i64 (fv t.data.toList), erv (fq t.data.toList)]) ∧ Ext w w' := by
  refine (parse4_any t w T ht).mono fun e w' ⟨h1, h2⟩ => ⟨?_, h2⟩
  unfold fv fq
  rcases h1 with ⟨s, hs, rfl⟩ | ⟨hs, rfl⟩ <;> rw [hs] <;> rfl
theorem rfour_u (t : ByteArray) (w : World) (ht : t.size ≤ 1048576) : Calls Tryz.prog 18 #[.string t] w fun e w' => e = .returned (.tuple #[.int .i64 (fv t.data.toList), .int .i64 (fq t.data.toList)]) ∧ Ext w w' := by
  refine (rfour_any t w ht).mono fun e w' ⟨h1, h2⟩ => ⟨?_, h2⟩
  unfold fv fq
  rcases h1 with ⟨s, hs, rfl⟩ | ⟨hs, rfl⟩ <;> rw [hs] <;> rfl
theorem w32_lim {n : Int} (h : w32 n = true) : 0 ≤ n ∧ n < 4294967296 := by
  have := w32_yes h
  omega
theorem w32_not {n : Int} (h : w32 n = false) : ¬ (0 ≤ n ∧ n < 4294967296) := by
  intro hh
  unfold w32 at h
  simp at h
  omega
theorem print4_u (n : Int) (w : World) (T : Tabs w) : Calls Tryz.prog 17 #[.int .i64 n] w fun e w' => e = .returned (.tuple #[.string (p4 n), erv (e4 n)]) ∧ Ext w w' := by
  unfold p4 e4
  cases h : w32 n
  · exact (print4_no n w (w32_not h)).mono fun e w' ⟨h1, h2⟩ => ⟨by rw [h1]; rfl, h2⟩
  · obtain ⟨u, rfl⟩ := Int.eq_ofNat_of_zero_le (w32_lim h).1
    exact (print4_yes u w T (by have := w32_lim h; omega)).mono fun e w' ⟨h1, h2⟩ => ⟨by rw [h1]; rfl, h2⟩
end Go.Proofs.YtonjifkjammopaaGreatDoor
