/- The contracts of ip4.Encode, ip4.four and ip4.Decode. Conditions: as each theorem states them. -/
import Derived.Test.YtoaahiclmodcgaaIp4e
import Derived.Test.YtoaahiclmodcgaaCopy
import Derived.Test.YtoaahiclmodcgaaOf
import Derived.Deep.RegionLaw
import Derived.Deep.DeepCutAuto
namespace Go.Proofs.Ytoaahiclmodcgaa
open Go.RowKit

namespace Pl
/-- A number of two bytes, of four. -/
def at4 (l : List Int) (i : Nat) : Int := l.getD i 0 * 16777216 + l.getD (i + 1) 0 * 65536 + l.getD (i + 2) 0 * 256 + l.getD (i + 3) 0
theorem at2_bd {l : List Int} (h : IsB l) (i : Nat) : 0 ≤ at2 l i ∧ at2 l i ≤ 65535 := by
  have h0 := h.getD i
  have h1 := h.getD (i + 1)
  unfold at2
  omega
theorem at4_bd {l : List Int} (h : IsB l) (i : Nat) : 0 ≤ at4 l i ∧ at4 l i < 4294967296 := by
  have h0 := h.getD i
  have h1 := h.getD (i + 1)
  have h2 := h.getD (i + 2)
  have h3 := h.getD (i + 3)
  unfold at4
  omega
/-- What bytes may be, as a packet: written again. -/
def want4 (l : List Int) : List Int := enc4 (at4 l 12) (at4 l 16) (l.getD 8 0) (l.getD 9 0) (at2 l 4) (l.drop 20)
theorem ok4_of {l : List Int} (h : IsB l) : Ok4 (at4 l 12) (at4 l 16) (l.getD 8 0) (l.getD 9 0) (at2 l 4) := ⟨at4_bd h 12, at4_bd h 16, h.getD 8, h.getD 9, at2_bd h 4⟩
end Pl

namespace Pl
/-- Bytes with two of others at the place of the check. -/
def patch4 (l m : List Int) : List Int := l.take 10 ++ ((m.drop 10).take 2 ++ l.drop 12)
end Pl
/-- What Decode gives of bytes that are not too short or long, whose numbers are S D T K I. -/
def Dec4 (xs : List Int) (S D T K I : Int) (w : World) (e : Ending) (w' : World) : Prop :=
  (Pl.enc4 S D T K I (xs.drop 20) = xs → ∃ v, e = .returned (.tuple #[pk4 S D T K I v, .nilIface]) ∧ Own w' w.heap.size v (xs.drop 20)) ∧
  (Pl.enc4 S D T K I (xs.drop 20) ≠ xs → Pl.patch4 (Pl.enc4 S D T K I (xs.drop 20)) xs = xs → e = .returned (.tuple #[pk4 0 0 0 0 0 (.slice none 0 0), errv 6])) ∧
  (Pl.enc4 S D T K I (xs.drop 20) ≠ xs → Pl.patch4 (Pl.enc4 S D T K I (xs.drop 20)) xs ≠ xs → e = .returned (.tuple #[pk4 0 0 0 0 0 (.slice none 0 0), errv 5])) ∧
  Below w.heap.size w w'

end Go.Proofs.Ytoaahiclmodcgaa
