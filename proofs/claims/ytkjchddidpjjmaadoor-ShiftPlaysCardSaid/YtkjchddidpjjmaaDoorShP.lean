/- What a stream with a head makes of a segment that goes up, or down: plain. Conditions: none. -/
import Derived.Test.YtkjchddidpjjmaaDoorUpd
import Derived.Test.YtkjchddidpjjmaaDoorDown
import Derived.Test.YtkjchddidpjjmaaDoorErv
namespace Go.Proofs.YtkjchddidpjjmaaDoor
open Go.RowKit
namespace Pl
/-- What comes of a segment: the fault, the segment's numbers, its bytes, the stream behind it. -/
structure Res where
  q : Int
  s : Sg
  bs : List Int
  start : Int
  begun : Bool
  heard : Bool
def up (hx : List Int) (start : Int) (begun heard : Bool) (s : Sg) (xs : List Int) : Res :=
  if shFault s xs.length ≠ 0 then ⟨shFault s xs.length, sg0, [], start, begun, heard⟩
  else if s.flags / 2 % 2 = 1 then
    if xs.length = 0 then ⟨0, { s with seq := ser (s.seq - hx.length) }, [], ser (s.seq + 1), true, if begun = true ∧ start = ser (s.seq + 1) then heard else false⟩
    else ⟨2, sg0, [], start, begun, heard⟩
  else if begun = false then ⟨9, sg0, [], start, begun, heard⟩
  else if s.seq ≠ start ∨ heard = true then ⟨0, s, xs, start, begun, heard⟩
  else if 300 < hx.length + xs.length then ⟨3, sg0, [], start, begun, heard⟩
  else ⟨0, { s with seq := ser (s.seq - hx.length) }, hx ++ xs, start, begun, heard⟩
def down (start : Int) (begun heard : Bool) (s : Sg) (xs : List Int) : Res :=
  if shFault s xs.length ≠ 0 then ⟨shFault s xs.length, sg0, [], start, begun, heard⟩
  else if begun = false then ⟨9, sg0, [], start, begun, heard⟩
  else if s.flags / 16 % 2 = 0 then ⟨0, s, xs, start, begun, heard⟩
  else if aheadB s.ack start = true then ⟨0, { s with ack := start }, xs, start, begun, heard⟩
  else ⟨0, s, xs, start, begun, true⟩
theorem up_start {hx : List Int} {start : Int} {begun heard : Bool} {s : Sg} {xs : List Int} (h : 0 ≤ start ∧ start < 4294967296) : 0 ≤ (up hx start begun heard s xs).start ∧ (up hx start begun heard s xs).start < 4294967296 := by
  unfold up
  split
  · exact h
  split
  · split
    · show 0 ≤ ser (s.seq + 1) ∧ ser (s.seq + 1) < 4294967296
      unfold ser; omega
    · exact h
  split
  · exact h
  split
  · exact h
  split <;> exact h
theorem down_start {start : Int} {begun heard : Bool} {s : Sg} {xs : List Int} : (down start begun heard s xs).start = start := by
  unfold down
  split
  · rfl
  split
  · rfl
  split
  · rfl
  split <;> rfl
end Pl
/-- What the calls give: the segment, an error by number, the stream. -/
def ResGot (w : World) (g : Nat) (h : Value) (r : Pl.Res) (e : Ending) (w' : World) : Prop :=
  ∃ a n c, e = .returned (.tuple #[.agg (r.s.cells (.slice a n c)), errOf r.q]) ∧ Ints .u8 w' a n r.bs ∧ (∀ p, a = some p → w.heap.size ≤ p.block) ∧ StB w' g h r.start r.begun r.heard ∧ w.grownBy w' (some g)
theorem ResGot.err {w w' : World} {g : Nat} {h : Value} {e : Ending} {q start : Int} {begun heard : Bool} (hq : q ≠ 0) (he : SegErr q e) (x : Ext w w') (k : StB w g h start begun heard) : ResGot w g h ⟨q, sg0, [], start, begun, heard⟩ e w' :=
  ⟨none, 0, 0, by rw [errOf_ne hq]; exact he, Ints.nil, fun p hp => (by cases hp), Blk.ext k x, x.only g⟩
theorem ResGot.got {w w' : World} {g : Nat} {h : Value} {e : Ending} {s : Sg} {xs : List Int} {start : Int} {begun heard : Bool} (he : SegGot w s xs e w') (k : StB w' g h start begun heard) (x : w.grownBy w' (some g)) : ResGot w g h ⟨0, s, xs, start, begun, heard⟩ e w' := by
  obtain ⟨v, rfl, o⟩ := he
  obtain ⟨a, n, c, rfl, _, i⟩ := o.read
  exact ⟨a, n, c, rfl, i, fun p hp => (o.lt p.block (by rw [hp]; rfl)).1, k, x⟩
set_option maxRecDepth 100000 in
theorem down_res (g : Nat) (h : Value) (start : Int) (begun heard : Bool) (s : Sg) (a : Option Addr) (n c : Nat) (xs : List Int) (w : World) (K : StB w g h start begun heard) (hst : 0 ≤ start ∧ start < 4294967296)
    (hx : Ints .u8 w a n xs) (hc : a = none → c = 0) :
    Calls Tryd.prog 21 #[.pointer (some ⟨g, 0, none⟩), s.v (.slice a n c)] w fun e w' => ResGot w g h (Pl.down start begun heard s xs) e w' := by
  obtain rfl : xs.length = n := hx.len
  by_cases hf : Pl.shFault s xs.length = 0
  case neg =>
    refine (down_fault g s a _ c w hf).mono ?_
    rintro e w' ⟨r, q⟩
    unfold Pl.down
    rw [if_pos hf]
    exact .err hf r q K
  cases begun
  case false =>
    refine (down_state g h start heard s a _ c w hf K).mono ?_
    rintro e w' ⟨r, q⟩
    unfold Pl.down
    rw [if_neg (by rw [hf]; simp), if_pos rfl]
    exact .err (by decide) r q K
  refine (down_ok g h start heard s a _ c xs w hf K hst hx hc).mono ?_
  rintro e w' ⟨h0, h1, h2⟩
  unfold Pl.down
  rw [if_neg (by rw [hf]; simp), if_neg (by decide)]
  by_cases hA : s.flags / 16 % 2 = 0
  · rw [if_pos hA]
    obtain ⟨r, q⟩ := h0 hA
    exact .got r (Blk.ext K q) (q.only g)
  rw [if_neg hA]
  by_cases hh : aheadB s.ack start = true
  · rw [if_pos hh]
    obtain ⟨r, q⟩ := h1 (by omega) hh
    exact .got r (Blk.ext K q) (q.only g)
  · rw [if_neg hh]
    obtain ⟨r, k, q⟩ := h2 (by omega) (by simpa using hh)
    exact .got r k q
end Go.Proofs.YtkjchddidpjjmaaDoor
