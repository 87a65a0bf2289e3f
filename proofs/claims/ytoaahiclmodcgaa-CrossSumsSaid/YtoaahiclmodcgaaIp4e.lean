/- The contract of ip4.encode: the bytes of a packet that may be. Conditions: as each theorem states them. -/
import Derived.Test.YtoaahiclmodcgaaIp4
namespace Go.Proofs.Ytoaahiclmodcgaa
open Go.RowKit

namespace Pl
/-- The head of a packet of fours, with a check. -/
def first4 (t k i n c : Int) : List Int := [69, 0, (20 + n) / 256, (20 + n) % 256, i / 256, i % 256, 64, 0, t, k, c / 256, c % 256]
def head4 (s d t k i n c : Int) : List Int := first4 t k i n c ++ four s ++ four d
def sum4 (s d t k i n : Int) : Int := 65535 - fold (raw 0 (head4 s d t k i n 0))
/-- A packet's bytes. -/
def enc4 (s d t k i : Int) (b : List Int) : List Int := head4 s d t k i b.length (sum4 s d t k i b.length) ++ b
theorem head4_isB {s d t k i n c : Int} (h : Ok4 s d t k i) (hn : 0 ≤ n ∧ n ≤ 320) (hc : 0 ≤ c ∧ c ≤ 65535) : IsB (head4 s d t k i n c) := by
  obtain ⟨⟨s0, s1⟩, ⟨d0, d1⟩, ⟨t0, t1⟩, ⟨k0, k1⟩, ⟨i0, i1⟩⟩ := h
  refine (IsB.append ?_ (four_isB s0 s1)).append (four_isB d0 d1)
  unfold first4
  repeat (first | exact .nil | refine .cons (by omega) (by omega) ?_)
theorem head4_length (s d t k i n c : Int) : (head4 s d t k i n c).length = 20 := rfl
theorem head4_set (s d t k i n c : Int) : ((head4 s d t k i n 0).set 10 (c / 256)).set 11 (c % 256) = head4 s d t k i n c := rfl
theorem sum4_bd (s d t k i n : Int) : 0 ≤ sum4 s d t k i n ∧ sum4 s d t k i n ≤ 65535 := by
  have h0 := fold_lo (raw 0 (head4 s d t k i n 0))
  have h1 := fold_hi (raw 0 (head4 s d t k i n 0))
  unfold sum4
  omega
theorem enc4_isB {s d t k i : Int} {b : List Int} (h : Ok4 s d t k i) (hb : IsB b) (hn : b.length ≤ 320) : IsB (enc4 s d t k i b) :=
  (head4_isB h (by omega) (sum4_bd ..)).append hb
theorem enc4_length (s d t k i : Int) (b : List Int) : (enc4 s d t k i b).length = 20 + b.length := by
  unfold enc4
  rw [List.length_append, head4_length]
end Pl

end Go.Proofs.Ytoaahiclmodcgaa
