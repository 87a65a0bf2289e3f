/- The contract of gangplanksame.Segs, of two that are the same. Conditions: as each theorem states them. -/
import Derived.Test.YtkjchddidpjjmaaDoorSeg
import Derived.Test.YtkjchddidpjjmaaDoorStr
namespace Go.Proofs.YtkjchddidpjjmaaDoor
open Go.RowKit
set_option maxRecDepth 100000 in
set_option maxHeartbeats 1000000 in
theorem segs_yes (s : Sg) (a a' : Option Addr) (n c n' c' : Nat) (xs : List Int) (w : World) (h1 : Ints .u8 w a n xs) (h2 : Ints .u8 w a' n' xs) :
    Calls Tryd.prog 24 #[s.v (.slice a n c), s.v (.slice a' n' c')] w fun e w' => e = .returned (.bool true) ∧ Ext w w' := by
  have K1 := (Blk.new w 50 (s.cells (.slice a n c))).alloc (.cells (s.cells (.slice a' n' c')) 50)
  have K2 := Blk.new (w.alloc (.cells (s.cells (.slice a n c)) 50)) 50 (s.cells (.slice a' n' c'))
  simp only [World.size_alloc] at K2
  have E2 := ((Ext.refl w).alloc (.cells (s.cells (.slice a n c)) 50)).alloc (.cells (s.cells (.slice a' n' c')) 50)
  have k1 := conv_str (c := c) (h1.ext E2)
  have k2 := conv_str (c := c') (h2.ext E2)
  obtain ⟨m0, m1, m2, m3, m4, m5, m6, m7⟩ := K1.sg
  obtain ⟨n0, n1, n2, n3, n4, n5, n6, n7⟩ := K2.sg
  have HE := Lib.hid E2
  generalize strOfNums xs = z at k1 k2
  clear h1 h2 E2 K1 K2
  go_enter Tryd.func24, Tryd.ntmps24
  go_wp2_with fail
  go_ret
  exact ⟨by simp, HE.out⟩
end Go.Proofs.YtkjchddidpjjmaaDoor
