/- The contract of Down at a stream that has begun. Conditions: as each theorem states them. -/
import Derived.Test.YtkjchddidpjjmaaDoorShift
import Derived.Test.YtkjchddidpjjmaaDoorUp
namespace Go.Proofs.YtkjchddidpjjmaaDoor
open Go.RowKit

/-- What is told: not ahead of the start. -/
def Told (start ack : Int) : Prop := ¬ (1 ≤ (start - ack) % 4294967296 ∧ (start - ack) % 4294967296 < 2147483648)
theorem told_of {start ack : Int} (h : aheadB ack start = false) : Told start ack := by
  unfold aheadB at h
  unfold Told
  have := of_decide_eq_false h
  omega
theorem told_self (start : Int) : Told start start := by unfold Told; omega

theorem down_any (g : Nat) (h : Value) (start : Int) (heard : Bool) (s : Sg) (a : Option Addr) (n c : Nat) (xs : List Int) (w : World) (K : StB w g h start true heard) (hst : 0 ≤ start ∧ start < 4294967296)
    (hx : Ints .u8 w a n xs) (hc : a = none → c = 0) :
    Calls Tryd.prog 21 #[.pointer (some ⟨g, 0, none⟩), s.v (.slice a n c)] w fun e w' =>
      (∃ heard', StB w' g h start true heard') ∧ w.grownBy w' (some g) ∧ ((∃ q, SegErr q e) ∨ ∃ s' : Sg, SegGot w s' xs e w' ∧ s'.seq = s.seq ∧ (0 ≤ s'.ack ∧ s'.ack < 4294967296) ∧ (0 ≤ s'.flags ∧ s'.flags ≤ 31) ∧ (s'.flags / 16 % 2 = 1 → Told start s'.ack)) := by
  by_cases hf : Pl.shFault s n = 0
  · obtain ⟨-, -, hk, hfl, -⟩ := shFault_ok hf
    refine (down_ok g h start heard s a n c xs w hf K hst hx hc).mono ?_
    rintro e w' ⟨h0, h1, h2⟩
    by_cases hA : s.flags / 16 % 2 = 1
    · by_cases hh : aheadB s.ack start = true
      · obtain ⟨r, q⟩ := h1 hA hh
        exact ⟨⟨heard, Blk.ext K q⟩, q.only g, .inr ⟨_, r, rfl, hst, hfl, fun _ => told_self _⟩⟩
      · obtain ⟨r, k, q⟩ := h2 hA (by simpa using hh)
        exact ⟨⟨true, k⟩, q, .inr ⟨_, r, rfl, hk, hfl, fun _ => told_of (by simpa using hh)⟩⟩
    · obtain ⟨r, q⟩ := h0 (by omega)
      exact ⟨⟨heard, Blk.ext K q⟩, q.only g, .inr ⟨_, r, rfl, hk, hfl, fun h => absurd h hA⟩⟩
  · refine (down_fault g s a n c w hf).mono ?_
    rintro e w' ⟨r, q⟩
    exact ⟨⟨heard, Blk.ext K q⟩, q.only g, .inl ⟨_, r⟩⟩
end Go.Proofs.YtkjchddidpjjmaaDoor
