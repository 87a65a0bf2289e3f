/- Lemmas of this seat, bound together: Plain Base Frame Bits Sum Own. Conditions: as each lemma states them. -/
import Derived.KernelRfl
import Derived.WalkKit
import Derived.WalkSmall
import Derived.Below
import Derived.Lib.Hide
import Derived.BigQuiet
import Derived.Deep.QuietTactic
import Derived.Handy
import Derived.Test.YtbjogkpepfgegaaGreatDoorProg
import Derived.Test.YtbjogkpepfgegaaGreatDoorRows
import Derived.ProofKit
import Derived.OpenShut
import Derived.ShutString
import Derived.ChangeOld
import Derived.Laws.BitsLemmas
import Derived.Laws.BitsAllLaws
import Derived.OwnWalk
import Derived.Laws.AppendOwnNone
namespace Go.Proofs.YtbjogkpepfgegaaGreatDoor.Pl

/-- What a number comes to when its carries are added in. -/
def fold (n : Int) : Int := if n = 0 then 0 else (n - 1) % 65535 + 1

theorem fold_lo (n : Int) : 0 ≤ fold n := by unfold fold; split <;> omega
theorem fold_hi (n : Int) : fold n ≤ 65535 := by unfold fold; split <;> omega
theorem fold_zero : fold 0 = 0 := rfl
theorem fold_pos {n : Int} (h : n ≠ 0) : 1 ≤ fold n := by unfold fold; rw [if_neg h]; omega
theorem fold_small {n : Int} (h0 : 0 ≤ n) (h : n ≤ 65535) : fold n = n := by unfold fold; split <;> omega
theorem fold_step {n : Int} (h : 65535 < n) : fold (n % 65536 + n / 65536) = fold n := by
  unfold fold
  rw [if_neg (by omega), if_neg (by omega)]
  omega
/-- Two numbers that are alike by 65535, neither of them 0. -/
theorem fold_congr {a b k : Int} (ha : a ≠ 0) (hb : b ≠ 0) (h : a = b + 65535 * k) : fold a = fold b := by
  unfold fold
  rw [if_neg ha, if_neg hb]
  omega
theorem fold_eq (n : Int) : ∃ k, fold n = n + 65535 * k := by
  unfold fold
  split
  · exact ⟨0, by omega⟩
  · exact ⟨-((n - 1) / 65535), by omega⟩

/-- The sum of bytes, the first of them at an even place where p is even. -/
def raw : Nat → List Int → Int
  | _, [] => 0
  | p, x :: r => (if p % 2 = 0 then 256 * x else x) + raw (p + 1) r

/-- Each is a byte. -/
def IsB (l : List Int) : Prop := ∀ x ∈ l, 0 ≤ x ∧ x ≤ 255

theorem IsB.of {l : List Int} (h : l.all (fun x => decide (0 ≤ x ∧ x ≤ 255)) = true) : IsB l := fun x hx => by
  have := List.all_eq_true.1 h x hx
  simpa using this
theorem IsB.nil : IsB [] := fun _ h => by cases h
theorem IsB.append {a b : List Int} (ha : IsB a) (hb : IsB b) : IsB (a ++ b) := fun x hx => by
  rcases List.mem_append.1 hx with h | h
  · exact ha x h
  · exact hb x h
theorem IsB.left {a b : List Int} (h : IsB (a ++ b)) : IsB a := fun x hx => h x (List.mem_append_left _ hx)
theorem IsB.right {a b : List Int} (h : IsB (a ++ b)) : IsB b := fun x hx => h x (List.mem_append_right _ hx)
theorem IsB.take {a : List Int} (h : IsB a) (n : Nat) : IsB (a.take n) := fun x hx => h x (List.mem_of_mem_take hx)
theorem IsB.drop {a : List Int} (h : IsB a) (n : Nat) : IsB (a.drop n) := fun x hx => h x (List.mem_of_mem_drop hx)
theorem IsB.cons {x : Int} {a : List Int} (h0 : 0 ≤ x) (h1 : x ≤ 255) (h : IsB a) : IsB (x :: a) := fun y hy => by
  rcases List.mem_cons.1 hy with rfl | hy
  · exact ⟨h0, h1⟩
  · exact h y hy
theorem IsB.getD {a : List Int} (h : IsB a) (i : Nat) : 0 ≤ a.getD i 0 ∧ a.getD i 0 ≤ 255 := by
  rw [List.getD_eq_getElem?_getD]
  rcases Nat.lt_or_ge i a.length with hi | hi
  · rw [List.getElem?_eq_getElem hi]; exact h _ (List.getElem_mem hi)
  · rw [List.getElem?_eq_none hi]; exact ⟨by simp, by simp⟩
theorem IsB.set {a : List Int} (h : IsB a) (i : Nat) {x : Int} (h0 : 0 ≤ x) (h1 : x ≤ 255) : IsB (a.set i x) := fun y hy => by
  rcases List.mem_or_eq_of_mem_set hy with hy | rfl
  · exact h y hy
  · exact ⟨h0, h1⟩

theorem raw_append (xs ys : List Int) : ∀ p, raw p (xs ++ ys) = raw p xs + raw (p + xs.length) ys := by
  induction xs with
  | nil => intro p; simp [raw]
  | cons x r ih =>
    intro p
    simp only [List.cons_append, raw, ih, List.length_cons]
    rw [show p + 1 + r.length = p + (r.length + 1) from by omega]
    omega
theorem raw_even (xs : List Int) : ∀ p, raw (p + 2) xs = raw p xs := by
  induction xs with
  | nil => intro p; rfl
  | cons x r ih =>
    intro p
    simp only [raw]
    rw [show p + 2 + 1 = (p + 1) + 2 from by omega, ih, Nat.add_mod_right]
theorem raw_par (xs : List Int) (p : Nat) (h : p % 2 = 0) : raw p xs = raw 0 xs := by
  obtain ⟨k, rfl⟩ : ∃ k, p = 2 * k := ⟨p / 2, by omega⟩
  clear h
  induction k with
  | zero => rfl
  | succ k ih => rw [show 2 * (k + 1) = 2 * k + 2 from by omega, raw_even, ih]
theorem raw_snoc (xs : List Int) (x : Int) : raw 0 (xs ++ [x]) = raw 0 xs + (if xs.length % 2 = 0 then 256 * x else x) := by
  rw [raw_append]; simp [raw]
theorem raw_bd {xs : List Int} (h : IsB xs) : ∀ p, 0 ≤ raw p xs ∧ raw p xs ≤ 65280 * xs.length := by
  induction xs with
  | nil => intro p; simp [raw]
  | cons x r ih =>
    intro p
    have hx := h x (List.mem_cons_self ..)
    have hr := ih (fun y hy => h y (List.mem_cons_of_mem _ hy)) (p + 1)
    simp only [raw, List.length_cons]
    split <;> omega
/-- The sum of both parts, the first one of an even number. -/
theorem raw_parts (xs ys : List Int) (h : xs.length % 2 = 0) : raw 0 (xs ++ ys) = raw 0 xs + raw 0 ys := by
  rw [raw_append, Nat.zero_add, raw_par _ _ h]

/-- One byte in the place of another. -/
theorem raw_set (xs : List Int) (y : Int) : ∀ p i, i < xs.length → raw p (xs.set i y) = raw p xs + (if (p + i) % 2 = 0 then 256 * (y - xs.getD i 0) else y - xs.getD i 0) := by
  induction xs with
  | nil => intro p i hi; simp at hi
  | cons x r ih =>
    intro p i hi
    cases i with
    | zero => simp only [List.set_cons_zero, raw, List.getD_cons_zero, Nat.add_zero]; split <;> omega
    | succ i =>
      simp only [List.set_cons_succ, raw, List.getD_cons_succ]
      rw [ih (p + 1) i (by simpa using hi), show p + 1 + i = p + (i + 1) from by omega]
      omega

/-- WHAT IS SWAPPED IS SUMMED ANEW. -/
theorem swaps (was old to now : Int) (hwas : ∃ s, was = fold s ∧ 0 ≤ s ∧ old ≤ s ∧ now = fold (s - old + to)) (ho : 0 ≤ old) (ho' : old ≤ 65535) (ht : 0 ≤ to) (ht' : to ≤ 65535) :
    now = 0 ∨ 65535 - fold (fold (65535 - (65535 - was) + 65535 - old) + to) = 65535 - now := by
  obtain ⟨s, rfl, hs, hos, rfl⟩ := hwas
  by_cases hz : s - old + to = 0
  · left; rw [hz]; rfl
  · right
    have hw0 := fold_lo s
    obtain ⟨k1, e1⟩ := fold_eq s
    obtain ⟨k2, e2⟩ := fold_eq (65535 - (65535 - fold s) + 65535 - old)
    have key : fold (65535 - (65535 - fold s) + 65535 - old) + to ≠ 0 := by
      intro hc
      have hl := fold_lo (65535 - (65535 - fold s) + 65535 - old)
      have h1 : fold (65535 - (65535 - fold s) + 65535 - old) = 0 := by omega
      have h2 : ¬ (65535 - (65535 - fold s) + 65535 - old ≠ 0) := fun hn => by have := fold_pos hn; omega
      have h3 : fold s = 0 ∧ old = 65535 := by omega
      have h4 : ¬ s ≠ 0 := fun hn => by have := fold_pos hn; omega
      omega
    rw [fold_congr (k := k1 + k2 + 1) key hz (by omega)]

/-- The sum of two sums. -/
theorem fold_add {a b : Int} (ha : 0 ≤ a) (hb : 0 ≤ b) : fold (fold a + fold b) = fold (a + b) := by
  by_cases h : a + b = 0
  · have : a = 0 := by omega
    have : b = 0 := by omega
    subst a b; rfl
  · obtain ⟨k1, e1⟩ := fold_eq a
    obtain ⟨k2, e2⟩ := fold_eq b
    have hn : fold a + fold b ≠ 0 := by
      have h1 := fold_lo a
      have h2 := fold_lo b
      by_cases h0 : a = 0
      · have := fold_pos (n := b) (by omega); omega
      · have := fold_pos (n := a) h0; omega
    exact fold_congr (k := k1 + k2) hn h (by omega)
/-- A sum with its check behind it. -/
theorem fold_check {n : Int} (h : 0 ≤ n) : fold (n + (65535 - fold n)) = 65535 := by
  have h1 := fold_lo n
  have h2 := fold_hi n
  unfold fold at *
  split at * <;> split at * <;> omega

end Go.Proofs.YtbjogkpepfgegaaGreatDoor.Pl
namespace Go.Proofs.YtbjogkpepfgegaaGreatDoor
open Go.RowKit

/-- A slice's value shows the numbers xs, each of kind k. -/
def Ints (k : IntKind) (w : World) (a : Option Addr) (n : Nat) (xs : List Int) : Prop :=
  xs.length = n ∧ (n = 0 ∨ ∃ b off, a = some ⟨b, off, none⟩ ∧ ∀ i, i < n → w.cell? ⟨b, off + i, none⟩ = some (.int k (xs.getD i 0)))

theorem Ints.len {k : IntKind} {w : World} {a : Option Addr} {n : Nat} {xs : List Int} (h : Ints k w a n xs) : xs.length = n := h.1

theorem Ints.at {k : IntKind} {w : World} {a : Option Addr} {n : Nat} {xs : List Int} (h : Ints k w a n xs) (hn : 0 < n) :
    ∃ b off, a = some ⟨b, off, none⟩ ∧ b < w.heap.size ∧ ∀ i, i < n → w.cell? ⟨b, off + i, none⟩ = some (.int k (xs.getD i 0)) := by
  rcases h.2 with h0 | ⟨b, off, rfl, hc⟩
  · omega
  · exact ⟨b, off, rfl, World.block_lt_of_cell? w _ (hc 0 hn), hc⟩

theorem Ints.nil {k : IntKind} {w : World} {a : Option Addr} : Ints k w a 0 [] := ⟨rfl, .inl rfl⟩

theorem Ints.below {k : IntKind} {w w' : World} {a : Option Addr} {n : Nat} {xs : List Int} (h : Ints k w a n xs) (hb : Below w.heap.size w w') : Ints k w' a n xs := by
  refine ⟨h.1, ?_⟩
  rcases h.2 with h0 | ⟨b, off, rfl, hc⟩
  · exact .inl h0
  · refine .inr ⟨b, off, rfl, fun i hi => ?_⟩
    have := hc i hi
    rw [hb.cell (World.block_lt_of_cell? w _ this)]
    exact this

theorem Ints.drew {k : IntKind} {w : World} {a : Option Addr} {n : Nat} {xs : List Int} (h : Ints k w a n xs) : Ints k w.drew a n xs := h
theorem Ints.drewN {k : IntKind} {w : World} {a : Option Addr} {n : Nat} {xs : List Int} (h : Ints k w a n xs) (q : Nat) : Ints k (w.drewN q) a n xs := h

theorem take_snoc (xs : List Int) (k : Nat) (h : k < xs.length) : xs.take (k + 1) = xs.take k ++ [xs.getD k 0] := by
  rw [List.take_succ_eq_append_getElem h]; simp [List.getD, h]

theorem ret_int {k : IntKind} {a b : Int} (h : a = b) : Ending.returned (.int k a) = .returned (.int k b) := by rw [h]
theorem ret_bool {a b : Bool} (h : a = b) : Ending.returned (.bool a) = .returned (.bool b) := by rw [h]
theorem val_int {k : IntKind} {a b : Int} (h : a = b) : Value.int k a = .int k b := by rw [h]

theorem Ints.dropped {k : IntKind} {w : World} {b off n : Nat} {xs : List Int} (h : Ints k w (some ⟨b, off, none⟩) n xs) (lo c : Nat) (hlo : lo ≤ n) (hc : n ≤ c) :
    Ints k w (if c = lo then some ⟨b, off, none⟩ else some ⟨b, off + lo, none⟩) (n - lo) (xs.drop lo) := by
  refine ⟨by rw [List.length_drop, h.1], ?_⟩
  by_cases hz : n - lo = 0
  · exact .inl hz
  · rw [if_neg (by omega)]
    obtain ⟨b', off', hb, _, hcell⟩ := h.at (by omega)
    simp only [Option.some.injEq, Addr.mk.injEq, and_true] at hb
    obtain ⟨rfl, rfl⟩ := hb
    refine .inr ⟨_, _, rfl, fun i hi => ?_⟩
    have := hcell (lo + i) (by omega)
    rw [Nat.add_assoc, this]
    simp [List.getD, List.getElem?_drop]
theorem Ints.sub {k : IntKind} {w : World} {b off n : Nat} {xs : List Int} (h : Ints k w (some ⟨b, off, none⟩) n xs) (lo hi : Nat) (hlo : lo ≤ hi) (hhi : hi ≤ n) :
    Ints k w (some ⟨b, off + lo, none⟩) (hi - lo) ((xs.drop lo).take (hi - lo)) := by
  refine ⟨by rw [List.length_take, List.length_drop, h.1]; omega, ?_⟩
  by_cases hz : hi - lo = 0
  · exact .inl hz
  · obtain ⟨b', off', hb, _, hcell⟩ := h.at (by omega)
    simp only [Option.some.injEq, Addr.mk.injEq, and_true] at hb
    obtain ⟨rfl, rfl⟩ := hb
    refine .inr ⟨_, _, rfl, fun i hi => ?_⟩
    have := hcell (lo + i) (by omega)
    rw [Nat.add_assoc, this]
    simp [List.getD, List.getElem?_drop, hi]
/-- The six cells of a block that is known whole. -/
theorem box6 {W : World} {B : Nat} {v0 v1 v2 v3 v4 v5 : Value} {t : TypeId} (h : W.heap[B]? = some (.cells #[v0, v1, v2, v3, v4, v5] t)) :
    W.cell? ⟨B, 0, none⟩ = some v0 ∧ W.cell? ⟨B, 1, none⟩ = some v1 ∧ W.cell? ⟨B, 2, none⟩ = some v2 ∧ W.cell? ⟨B, 3, none⟩ = some v3 ∧ W.cell? ⟨B, 4, none⟩ = some v4 ∧ W.cell? ⟨B, 5, none⟩ = some v5 := by
  simp [World.cell?, h]
/-- A mark at which the walk stands. -/
def Halt (p : Prop) : Prop := p
theorem Halt.out {p : Prop} (h : Halt p) : p := h
theorem Halt.mk {p : Prop} (h : p) : Halt p := h

end Go.Proofs.YtbjogkpepfgegaaGreatDoor
namespace Go.Proofs.YtbjogkpepfgegaaGreatDoor
open Go.ChangeShapes Go.WideShapes Go.ChangeAt Go.RowKit

theorem own : ownKnob Tryz.prog.godebug = none := by kernel_rfl
theorem laidOut : laidOutB Tryz.prog = true := by kernel_rfl

theorem wf_u8 {x : Int} (h : (Lit.int .u8 x).wf = true) : 0 ≤ x ∧ x ≤ 255 := by
  simp [Lit.wf, IntKind.min, IntKind.max, IntKind.signed, IntKind.bits] at h
  omega
theorem wf_i64 {x : Int} (h : (Lit.int .i64 x).wf = true) : -9223372036854775808 ≤ x ∧ x ≤ 9223372036854775807 := by
  simp [Lit.wf, IntKind.min, IntKind.max, IntKind.signed, IntKind.bits] at h
  omega

/-- A slice of bytes that came in. -/
def IsBytes (w : World) (a : Option Addr) (n c : Nat) (xs : List Int) : Prop := Ints .u8 w a n xs ∧ Pl.IsB xs ∧ n ≤ c ∧ c ≤ maxLen
/-- A number that came in. -/
def IsInt (x : Int) : Prop := -9223372036854775808 ≤ x ∧ x ≤ 9223372036854775807

theorem ints_of_cells {k : IntKind} {w : World} {a : Addr} {len cap : Nat} {zs : List Int} (hl : len ≤ cap) (hz : zs.length = cap) (hcell : ∀ i, i < zs.length → w.cell? (a.add i) = some (.int k (zs.getD i 0))) : Ints k w (some a) len (zs.take len) := by
  refine ⟨by rw [List.length_take]; omega, ?_⟩
  rcases Nat.eq_zero_or_pos len with h0 | h0
  · exact .inl h0
  · refine .inr ?_
    obtain ⟨b, off, spot⟩ := a
    have hc := hcell 0 (by omega)
    have hspot : spot = none := by simpa [Addr.add] using World.cell?_spot hc
    subst hspot
    refine ⟨b, off, rfl, fun i hi => ?_⟩
    have h := hcell i (by omega)
    rw [Addr.add_lit] at h
    rw [h]
    simp [List.getD, hi]

theorem open_bytes {H : Type} {enc : TypeId × Value → H} {W : World} {a : Option Addr} {n c : Nat} {d : DataW H} {p : List MemPlace}
    (h : DataW.Trod enc Tryz.prog W 0 (fun _ => true) true 37 (.slice a n c) d p) : ∃ xs, IsBytes W a n c xs := by
  obtain ⟨fuel, hf⟩ := h
  rcases open_ints Tryz.underlying37 Tryz.underlying5 (by kernel_rfl) hf with ⟨hcs, _⟩ | ⟨x, l, c', zs, hcs, _, hl, hm, hz, _, hcell, hwz⟩
  · simp [Value.cells] at hcs
    obtain ⟨rfl, rfl, rfl⟩ := hcs
    exact ⟨[], Ints.nil, Pl.IsB.nil, Nat.le_refl _, Nat.zero_le _⟩
  · simp [Value.cells] at hcs
    obtain ⟨rfl, rfl, rfl⟩ := hcs
    exact ⟨zs.take n, ints_of_cells hl (by simpa using hz) hcell, fun y hy => wf_u8 (hwz y (List.mem_of_mem_take hy)), hl, hm⟩

end Go.Proofs.YtbjogkpepfgegaaGreatDoor
namespace Go.Proofs.YtbjogkpepfgegaaGreatDoor

theorem two62 : (2 : Int) ^ 62 = 4611686018427387904 := by decide
theorem wraps_i64 (n : Int) (h0 : 0 ≤ n) (h1 : n < 2 ^ 62) : IntKind.i64.wrap n = n := by rw [two62] at h1; rw [IntKind.wrap_i64]; omega

theorem and_mask (i : Nat) (hi : i ≤ 62) (x m : Int) (hm : (2 : Int) ^ i - 1 = m) (h0 : 0 ≤ x) (h1 : x < 4611686018427387904) : bits .and .i64 x m = x % 2 ^ i := by
  rw [← hm]
  exact bits_mask .i64 62 (by decide) wraps_i64 i hi x h0 (by rw [two62]; exact h1)
theorem and65535 {x : Int} (h0 : 0 ≤ x) (h1 : x < 4611686018427387904) : bits .and .i64 x 65535 = x % 65536 := and_mask 16 (by decide) x _ (by decide) h0 h1
theorem and255 {x : Int} (h0 : 0 ≤ x) (h1 : x < 4611686018427387904) : bits .and .i64 x 255 = x % 256 := and_mask 8 (by decide) x _ (by decide) h0 h1
theorem and1 {x : Int} (h0 : 0 ≤ x) (h1 : x < 4611686018427387904) : bits .and .i64 x 1 = x % 2 := and_mask 1 (by decide) x _ (by decide) h0 h1

theorem or_join (i : Nat) (x y : Int) (h0 : 0 ≤ x) (hx : x % 2 ^ i = 0) (h1 : x < 4611686018427387904) (hy0 : 0 ≤ y) (hy : y < 2 ^ i) (hy1 : y < 4611686018427387904) : bits .or .i64 x y = x + y :=
  bits_join .i64 62 (by decide) wraps_i64 i x y h0 hx (by rw [two62]; exact h1) hy0 hy (by rw [two62]; exact hy1)
theorem or8 {x y : Int} (h0 : 0 ≤ x) (hx : x % 256 = 0) (h1 : x < 4611686018427387904) (hy0 : 0 ≤ y) (hy : y < 256) : bits .or .i64 x y = x + y := or_join 8 x y h0 hx h1 hy0 hy (by omega)
theorem or16 {x y : Int} (h0 : 0 ≤ x) (hx : x % 65536 = 0) (h1 : x < 4611686018427387904) (hy0 : 0 ≤ y) (hy : y < 65536) : bits .or .i64 x y = x + y := or_join 16 x y h0 hx h1 hy0 hy (by omega)
theorem or24 {x y : Int} (h0 : 0 ≤ x) (hx : x % 16777216 = 0) (h1 : x < 4611686018427387904) (hy0 : 0 ≤ y) (hy : y < 16777216) : bits .or .i64 x y = x + y := or_join 24 x y h0 hx h1 hy0 hy (by omega)

end Go.Proofs.YtbjogkpepfgegaaGreatDoor
namespace Go.Proofs.YtbjogkpepfgegaaGreatDoor
open Go.RowKit

set_option maxHeartbeats 400000 in
theorem fold_any (n : Int) (w : World) (h0 : 0 ≤ n) (h1 : n < 4611686018427387904) :
    Calls Tryz.prog 104 #[.int .i64 n] w fun e w' => e = .returned (.int .i64 (Pl.fold n)) ∧ w = w' := by
  go_enter Tryz.func104, Tryz.ntmps104
  go_wp2
  go_loop [0] (fun t => ∃ m : Int, 0 ≤ m ∧ m < 4611686018427387904 ∧ Pl.fold m = Pl.fold n ∧ t = .int .i64 m) (fun t => (intOf t).toNat)
  case atStart => exact ⟨n, h0, h1, rfl, rfl⟩
  case round =>
    obtain ⟨m, hm0, hm1, hf, rfl⟩ := hrel
    have HF := Lib.hid hf
    clear hf
    by_cases hlt : 65535 < m
    · have ha := and65535 hm0 hm1
      go_wp2
      go_round
      case rel => exact ⟨m % 65536 + m / 65536, by omega, by omega, by rw [Pl.fold_step hlt, HF.out], rfl⟩
      case measure => simp [intOf]; omega
    · go_wp2
      go_ret
      exact ⟨ret_int (by rw [← HF.out, Pl.fold_small hm0 (by omega)]), rfl⟩

set_option maxHeartbeats 400000 in
theorem raw_any (a : Option Addr) (n c : Nat) (xs : List Int) (w : World) (hx : Ints .u8 w a n xs) (hb : Pl.IsB xs) (hn : n ≤ 65536) :
    Calls Tryz.prog 87 #[.slice a n c] w fun e w' => e = .returned (.int .i64 (Pl.fold (Pl.raw 0 xs))) ∧ w = w' := by
  have hl := hx.len
  have hbd := Pl.raw_bd hb 0
  by_cases hz : n = 0
  · subst hz
    obtain rfl : xs = [] := List.length_eq_zero_iff.1 hl
    clear hx
    go_enter Tryz.func87, Tryz.ntmps87
    go_wp2
    go_loop [3, 8] (fun t i => t = .int .i64 0 ∧ i = .int .i64 0) (fun _ i => 0 - (intOf i).toNat)
    case atStart => exact ⟨rfl, rfl⟩
    case round =>
      obtain ⟨rfl, rfl⟩ := hrel
      go_wp2_with (go_at_call 104; refine (fold_any _ _ (by omega) (by omega)).mono ?_; rintro e w' ⟨rfl, rfl⟩)
      go_ret
      exact ⟨rfl, rfl⟩
  · obtain ⟨b, off, rfl, hbl, hc⟩ := hx.at (by omega)
    have HC := Lib.hid hc
    have HL := Lib.hid hl
    clear hx hc hl
    go_enter Tryz.func87, Tryz.ntmps87
    go_wp2
    go_loop [3, 8] (fun t i => ∃ k : Nat, k ≤ n ∧ i = .int .i64 k ∧ t = .int .i64 (Pl.raw 0 (xs.take k))) (fun _ i => n - (intOf i).toNat)
    case atStart => exact ⟨0, Nat.zero_le _, rfl, rfl⟩
    case round =>
      obtain ⟨k, hk, rfl, rfl⟩ := hrel
      have hB := Pl.raw_bd (hb.take k) 0
      have hkl : (xs.take k).length ≤ k := List.length_take_le _ _
      by_cases hlt : k < n
      · have hsn := Pl.raw_snoc (xs.take k) (xs.getD k 0)
        rw [← take_snoc xs k (by rw [HL.out]; exact hlt), List.length_take_of_le (by rw [HL.out]; omega)] at hsn
        have hbx := hb.getD k
        have hcell := HC.out k hlt
        generalize xs.getD k 0 = x at hsn hbx hcell
        generalize Pl.raw 0 (xs.take k) = s at *
        have HS := Lib.hid hsn
        clear hsn
        by_cases hp : k % 2 = 0
        · have hp' : (k : Int) % 2 = 0 := by omega
          go_wp2
          go_round
          case rel => exact ⟨k + 1, by omega, by go_num, by rw [HS.out, if_pos hp]; go_num⟩
          case measure => simp [intOf]; omega
        · have hp' : (k : Int) % 2 = 1 := by omega
          go_wp2
          go_round
          case rel => exact ⟨k + 1, by omega, by go_num, by rw [HS.out, if_neg hp]⟩
          case measure => simp [intOf]; omega
      · have hk' : k = n := by omega
        have hrest : xs.take k = xs := List.take_of_length_le (by rw [HL.out]; omega)
        have HR := Lib.hid hrest
        clear hk' hrest
        go_wp2_with (go_at_call 104; refine (fold_any _ _ (by omega) (by omega)).mono ?_; rintro e w' ⟨rfl, rfl⟩)
        go_ret
        exact ⟨ret_int (by rw [HR.out]), rfl⟩

/-- Are all of them numbers of 16 bits? -/
def words : List Int → Bool
  | [] => true
  | x :: r => decide (0 ≤ x ∧ x ≤ 65535) && words r
theorem words_snoc (l : List Int) (x : Int) : words (l ++ [x]) = (words l && decide (0 ≤ x ∧ x ≤ 65535)) := by
  induction l with
  | nil => simp [words]
  | cons y r ih => simp [words, ih, Bool.and_assoc]
theorem words_append (l m : List Int) : words (l ++ m) = (words l && words m) := by
  induction l with
  | nil => simp [words]
  | cons y r ih => simp [words, ih, Bool.and_assoc]
theorem words_bad (l : List Int) (k : Nat) (hk : k < l.length) (h : ¬ (0 ≤ l.getD k 0 ∧ l.getD k 0 ≤ 65535)) : words l = false := by
  have e := List.take_append_drop (k + 1) l
  rw [take_snoc l k hk] at e
  rw [← e, words_append, words_snoc, decide_eq_false h]
  simp

set_option maxHeartbeats 400000 in
theorem number_any (a : Option Addr) (n c : Nat) (xs : List Int) (w : World) (hx : Ints .i64 w a n xs) (hn : n ≤ 65536) :
    Calls Tryz.prog 105 #[.slice a n c] w fun e w' => e = .returned (.bool (words xs)) ∧ w = w' := by
  have hl := hx.len
  by_cases hz : n = 0
  · subst hz
    obtain rfl : xs = [] := List.length_eq_zero_iff.1 hl
    clear hx
    go_enter Tryz.func105, Tryz.ntmps105
    go_wp2
    go_loop [7] (fun i => i = .int .i64 0) (fun i => 0 - (intOf i).toNat)
    case atStart => exact rfl
    case round =>
      obtain rfl := hrel
      go_wp2
      go_ret
      exact ⟨rfl, rfl⟩
  · obtain ⟨b, off, rfl, hbl, hc⟩ := hx.at (by omega)
    have HC := Lib.hid hc
    have HL := Lib.hid hl
    clear hx hc hl
    go_enter Tryz.func105, Tryz.ntmps105
    go_wp2
    go_loop [7] (fun i => ∃ k : Nat, k ≤ n ∧ i = .int .i64 k ∧ words (xs.take k) = true) (fun i => n - (intOf i).toNat)
    case atStart => exact ⟨0, Nat.zero_le _, rfl, rfl⟩
    case round =>
      obtain ⟨k, hk, rfl, hw⟩ := hrel
      have HW := Lib.hid hw
      clear hw
      by_cases hlt : k < n
      · have hsn := words_snoc (xs.take k) (xs.getD k 0)
        have hbad := words_bad xs k (by rw [HL.out]; exact hlt)
        rw [← take_snoc xs k (by rw [HL.out]; exact hlt), HW.out] at hsn
        have hcell := HC.out k hlt
        generalize xs.getD k 0 = x at hsn hcell hbad
        have HS := Lib.hid hsn
        have HB := Lib.hid hbad
        clear hsn hbad
        by_cases h1 : x < 0
        · go_wp2
          go_ret
          exact ⟨ret_bool (HB.out (by omega)).symm, rfl⟩
        · by_cases h2 : 65535 < x
          · go_wp2
            go_ret
            exact ⟨ret_bool (HB.out (by omega)).symm, rfl⟩
          · go_wp2
            go_round
            case rel => exact ⟨k + 1, by omega, by go_num, by rw [HS.out]; simp; omega⟩
            case measure => simp [intOf]; omega
      · have hk' : k = n := by omega
        have hrest : xs.take k = xs := List.take_of_length_le (by rw [HL.out]; omega)
        rw [hrest] at HW
        clear hk' hrest
        go_wp2
        go_ret
        exact ⟨ret_bool HW.out.symm, rfl⟩

/-- An error of the program's, by its number. -/
def errv (n : Int) : Value := .iface 56 (.int .i64 n)

theorem ints_new (w : World) (cs : Array Value) (t : TypeId) (m : Nat × Nat) (k : IntKind) (xs : List Int) (h : cs.toList = xs.map (Value.int k)) : Ints k (w.alloc (.cells cs t m)) (some ⟨w.heap.size, 0, none⟩) xs.length xs := by
  refine ⟨rfl, .inr ⟨_, _, rfl, fun i hi => ?_⟩⟩
  rw [World.cell?_alloc_mark]
  simp only [Nat.zero_add]
  rw [← Array.getElem?_toList, h, List.getElem?_map, List.getElem?_eq_getElem hi]
  simp [List.getD, hi]

theorem add_ok (a b : Int) (w : World) (ha : 0 ≤ a ∧ a ≤ 65535) (hb : 0 ≤ b ∧ b ≤ 65535) :
    Calls Tryz.prog 89 #[.int .i64 a, .int .i64 b] w fun e w' => e = .returned (.tuple #[.int .i64 (Pl.fold (a + b)), .nilIface]) ∧ Below w.heap.size w w' := by
  obtain ⟨a0, a1⟩ := ha
  obtain ⟨b0, b1⟩ := hb
  have hw : words [a, b] = true := by simp [words]; omega
  have HW := Lib.hid hw
  clear hw
  go_enter Tryz.func89, Tryz.ntmps89
  go_wp2_with fail
  refine (number_any _ _ _ [a, b] _ (ints_new w _ _ _ _ _ rfl) (by simp)).mono ?_
  rintro e w' ⟨rfl, rfl⟩
  rw [HW.out]
  go_wp2_with (go_at_call 104; refine (fold_any _ _ (by omega) (by omega)).mono ?_; rintro e w' ⟨rfl, rfl⟩)
  go_ret2
  exact ⟨rfl, by go_grown⟩
theorem add_bad (a b : Int) (w : World) (h : words [a, b] = false) :
    Calls Tryz.prog 89 #[.int .i64 a, .int .i64 b] w fun e w' => e = .returned (.tuple #[.int .i64 0, errv 1]) ∧ Below w.heap.size w w' := by
  have HW := Lib.hid h
  clear h
  go_enter Tryz.func89, Tryz.ntmps89
  go_wp2_with fail
  refine (number_any _ _ _ [a, b] _ (ints_new w _ _ _ _ _ rfl) (by simp)).mono ?_
  rintro e w' ⟨rfl, rfl⟩
  rw [HW.out]
  go_wp2
  go_ret2
  exact ⟨rfl, by go_grown⟩
/-- What Swap gives of three numbers. -/
def swapv (a b c : Int) : Int := 65535 - Pl.fold (Pl.fold (65535 - a + 65535 - b) + c)
end Go.Proofs.YtbjogkpepfgegaaGreatDoor
namespace Go.Proofs.YtbjogkpepfgegaaGreatDoor
open Go.RowKit

/-- The bytes as cells. -/
def bcells (xs : List Int) : List Value := xs.map (Value.int .u8)
theorem bcells_append (xs ys : List Int) : bcells xs ++ bcells ys = bcells (xs ++ ys) := by simp [bcells]
theorem bcells_length (xs : List Int) : (bcells xs).length = xs.length := by simp [bcells]

/-- v is a slice of the bytes xs, nil or at the head of a block from B on that the call has made. -/
def Own (w : World) (B : Nat) (v : Value) (xs : List Int) : Prop := w.ownsRow B 5 1 v xs.length (bcells xs)

theorem Own.nil (w : World) (B : Nat) : Own w B (.slice none 0 0) [] := World.ownsRow_nil w B _ 1

theorem Own.lt {w : World} {B : Nat} {v : Value} {xs : List Int} (h : Own w B v xs) : ∀ k, v.ownBlock = some k → B ≤ k ∧ k < w.heap.size := World.ownsRow.lt h

/-- What lies below C stays owned while the world turns from C on. -/
theorem Own.below {w w' : World} {B C : Nat} {v : Value} {xs : List Int} (h : Own w B v xs) (hb : Below C w w') (hC : ∀ k, v.ownBlock = some k → k < C) : Own w' B v xs := by
  refine ⟨h.1, ?_⟩
  rcases h.2 with hn | ⟨g, cap, cur, rfl, hg, hh, rest⟩
  · exact .inl hn
  · exact .inr ⟨g, cap, cur, rfl, hg, by rw [hb.block g (hC g rfl)]; exact hh, rest⟩
theorem Own.drewN {w : World} {B : Nat} {v : Value} {xs : List Int} (h : Own w B v xs) (n : Nat) : Own (w.drewN n) B v xs := by
  obtain ⟨h1, h2⟩ := h
  refine ⟨h1, ?_⟩
  rcases h2 with hn | ⟨g, cap, cur, rfl, hg, hh, rest⟩
  · exact .inl hn
  · exact .inr ⟨g, cap, cur, rfl, hg, hh, rest⟩
theorem Own.drew {w : World} {B : Nat} {v : Value} {xs : List Int} (h : Own w B v xs) : Own w.drew B v xs := by
  obtain ⟨h1, h2⟩ := h
  refine ⟨h1, ?_⟩
  rcases h2 with hn | ⟨g, cap, cur, rfl, hg, hh, rest⟩
  · exact .inl hn
  · exact .inr ⟨g, cap, cur, rfl, hg, hh, rest⟩
theorem Own.setOther {w : World} {B : Nat} {v : Value} {xs : List Int} (h : Own w B v xs) {p : Addr} (hp : p.block < B) (u : Value) : Own (w.setCell p u) B v xs := ownsRow_setCell_below h hp u
theorem Own.mono {w : World} {B B' : Nat} {v : Value} {xs : List Int} (h : Own w B v xs) (hB : B' ≤ B) : Own w B' v xs := by
  refine ⟨h.1, ?_⟩
  rcases h.2 with hn | ⟨g, cap, cur, rfl, hg, hh, rest⟩
  · exact .inl hn
  · exact .inr ⟨g, cap, cur, rfl, by omega, hh, rest⟩

/-- The shape of what is owned, and its bytes. -/
theorem Own.open {w : World} {B : Nat} {v : Value} {xs : List Int} (h : Own w B v xs) :
    ∃ a cap, v = .slice a xs.length cap ∧ xs.length ≤ cap ∧ Ints .u8 w a xs.length xs ∧ (∀ k, (Value.slice a xs.length cap).ownBlock = some k → B ≤ k ∧ k < w.heap.size) ∧ (∀ p, a = some p → p.off = 0 ∧ p.spot = none ∧ ∀ i, w.frozen? ⟨p.block, i, none⟩ = false) := by
  have hlt := h.lt
  have h0 := h
  obtain ⟨h1, h2⟩ := h
  rcases h2 with ⟨rfl, hn⟩ | ⟨g, cap, cur, rfl, hg, hh, hnc, hcap, hsz, htake⟩
  · have : xs = [] := List.length_eq_zero_iff.1 hn
    subst this
    exact ⟨none, 0, rfl, Nat.le_refl _, Ints.nil, hlt, fun p hp => by cases hp⟩
  · refine ⟨some ⟨g, 0, none⟩, cap, rfl, hnc, ⟨rfl, .inr ⟨g, 0, rfl, fun i hi => ?_⟩⟩, hlt, fun p hp => ?_⟩
    · have hc := World.ownsRow.cellAt h0 i (by omega)
      rw [Nat.zero_add, hc, bcells, List.getElem?_map, List.getElem?_eq_getElem hi]
      simp [List.getD, hi]
    · cases hp
      refine ⟨rfl, rfl, fun i => ?_⟩
      exact World.ownsRow.frozenAt h0 i

theorem Tryz.infoU8 : (Tryz.prog.info? 5).map (fun i => (i.zero, i.size, i.bytes)) = some (some (.int .u8 0), 1, 1) := by kernel_rfl

theorem bcells_one (xs : List Int) : ∀ u ∈ bcells xs, u.oneCell' = true := fun u hu => by
  obtain ⟨x, _, rfl⟩ := List.mem_map.1 hu
  rfl

theorem Own.lt' {w : World} {B : Nat} {v : Value} {xs : List Int} (h : Own w B v xs) : ∀ k, v.ownBlock = some k → k < w.heap.size := fun k hk => (h.lt k hk).2
/-- What is owned, read where it is handed on. -/
theorem Own.read {w : World} {B : Nat} {v : Value} {xs : List Int} (h : Own w B v xs) : ∃ a n cap, v = .slice a n cap ∧ n ≤ cap ∧ Ints .u8 w a n xs := by
  obtain ⟨a, cap, hv, hc, hi, _⟩ := h.open
  exact ⟨a, _, cap, hv, hc, hi⟩
/-- What is owned and not empty, for who writes into it. -/
theorem Own.shape {w : World} {B : Nat} {v : Value} {xs : List Int} (h : Own w B v xs) (hn : 0 < xs.length) :
    ∃ g n cap, v = .slice (some ⟨g, 0, none⟩) n cap ∧ xs.length = n ∧ n ≤ cap ∧ B ≤ g ∧ g < w.heap.size ∧ (∀ i, i < n → w.cell? ⟨g, i, none⟩ = some (.int .u8 (xs.getD i 0))) ∧ ∀ i, w.frozen? ⟨g, i, none⟩ = false := by
  have h0 := h
  obtain ⟨h1, h2⟩ := h
  rcases h2 with ⟨rfl, hz⟩ | ⟨g, cap, cur, rfl, hg, hh, hnc, hcap, hsz, htake⟩
  · omega
  · refine ⟨g, _, cap, rfl, rfl, hnc, hg, (Array.getElem?_eq_some_iff.1 hh).1, fun i hi => ?_, fun i => World.ownsRow.frozenAt h0 i⟩
    rw [World.ownsRow.cellAt h0 i (by omega), bcells, List.getElem?_map, List.getElem?_eq_getElem hi]
    simp [List.getD, hi]
/-- A byte of what is owned is written. -/
theorem Own.store {w : World} {B g n cap : Nat} {xs : List Int} (h : Own w B (.slice (some ⟨g, 0, none⟩) n cap) xs) (j : Nat) (y : Int) :
    Own (w.setCell ⟨g, j, none⟩ (.int .u8 y)) B (.slice (some ⟨g, 0, none⟩) n cap) (xs.set j y) := by
  have hn : n = xs.length := by
    rcases h.2 with ⟨h0, _⟩ | ⟨g', cap', cur, hv, _⟩
    · cases h0
    · cases hv; rfl
  subst hn
  have hs := (World.ownsRow.stored h j (.int .u8 y)).1
  unfold Own
  rw [List.length_set, bcells, List.map_set]
  exact hs
theorem Own.len {w : World} {B n cap : Nat} {a : Option Addr} {xs : List Int} (h : Own w B (.slice a n cap) xs) : xs.length = n := by
  rcases h.2 with ⟨h0, h1⟩ | ⟨g', cap', cur, hv, _⟩
  · cases h0; exact h1
  · cases hv; rfl

/-- append of a nil slice, whatever its capacity is said to be. -/
theorem wp_append_own_none0 {w : World} {o : Oper} {a : Act} {K : Act → World → Prop} {Q : Exit → Act → World → Prop} (s x : Operand) (t : TypeId)
    (ho : o.op = .call { callee := .builtin .append, args := #[s, x], argTypes := #[t, t] })
    (base : Nat) (e : TypeId) (i : TypeInfo) (size : Nat) (ht : Tryz.prog.underlying t = some (.slice e)) (hi : Tryz.prog.info? e = some i)
    (v : Value) (n : Nat) (xs : List Value) (c : Nat) (hs : a.eval s = v) (hown : w.ownsRow base e size v n xs) (hx : a.eval x = .slice none 0 c)
    (h : K (a.put o.dst v) w) : o.wp Tryz.prog a w K Q := by
  have hrun : (Builtin.append_ #[t, t] o.type #[v, .slice none 0 c]).run Tryz.prog w = .ok v w := by
    rcases hown.2 with ⟨rfl, rfl⟩ | ⟨g, cap, cur, rfl, _, _, hnc, _⟩
    · simp [Builtin.append_, run_underlying ht, sizeOf, typeInfo, hi, Builtin.lenOf, Builtin.firstCells]
    · simp [Builtin.append_, run_underlying ht, sizeOf, typeInfo, hi, Builtin.lenOf, Builtin.firstCells, hnc, storeCells]
  unfold Oper.wp
  simp [execOp, ho, resolve, invoke, builtin, hs, hx, hrun, Result.andThen]
  exact h

/-- append of bytes, whatever they lie in, to what the call owns: at the operation. -/
theorem wp_app {w : World} {o : Oper} {a : Act} {K : Act → World → Prop} {Q : Exit → Act → World → Prop} (s x : Operand)
    (ho : o.op = .call { callee := .builtin .append, args := #[s, x], argTypes := #[37, 37] })
    (B : Nat) (v : Value) (ys : List Int) (hs : a.eval s = v) (hown : Own w B v ys) (ao : Option Addr) (m c : Nat) (xs : List Int) (hx : a.eval x = .slice ao m c) (hr : Ints .u8 w ao m xs)
    (hmax : ys.length + m ≤ 1099511627776) (hbase : B ≤ w.heap.size)
    (h : ∀ v' w', Own w' B v' (ys ++ xs) → Below B w w' → K (a.put o.dst v') w') : o.wp Tryz.prog a w K Q := by
  obtain ⟨i0, hi, hz0, hz1, hz2⟩ := info_parts Tryz.infoU8
  have hl : (bcells xs).length = m * 1 := by rw [bcells_length, hr.len, Nat.mul_one]
  rcases hr.2 with h0 | ⟨b, off, rfl, hc⟩
  · subst h0
    obtain rfl : xs = [] := List.length_eq_zero_iff.1 hr.len
    cases ao with
    | none =>
      refine wp_append_own_none0 s x _ ho B _ i0 1 Tryz.underlying37 hi v _ (bcells ys) c hs hown hx (h v w ?_ (Below.refl B w))
      simpa using hown
    | some ad =>
      refine wp_append_own w s x _ ho B _ i0 _ 1 1 Tryz.underlying37 hi hz0 hz1 hz2 rfl (by decide) v _ (bcells ys) hs hown ad 0 c [] hx rfl (fun _ _ h => by simp at h) (fun _ h => by cases h) (by unfold maxLen; omega) (by omega) hbase ?_
      intro v' w' ho' hg _
      exact h v' w' (by unfold Own; simpa using ho') ((Below.refl B w).grown hg hbase fun k hk => (hown.lt k hk).1)
  · refine wp_append_own w s x _ ho B _ i0 _ 1 1 Tryz.underlying37 hi hz0 hz1 hz2 rfl (by decide) v _ (bcells ys) hs hown ⟨b, off, none⟩ m c (bcells xs) hx hl ?_ (bcells_one xs) (by unfold maxLen; omega) (by omega) hbase ?_
    · intro j u hj
      have hlt : j < m := by have := (List.getElem?_eq_some_iff.1 hj).1; rw [bcells_length, hr.len] at this; exact this
      have hlt' : j < xs.length := by rw [hr.len]; exact hlt
      rw [bcells, List.getElem?_map, List.getElem?_eq_getElem hlt'] at hj
      simp only [Option.map_some, Option.some.injEq] at hj
      rw [← hj]
      have := hc j hlt
      simp [List.getD, hlt'] at this
      rw [Addr.add_lit]
      exact this
    · intro v' w' ho' hg _
      refine h v' w' ?_ ((Below.refl B w).grown hg hbase fun k hk => (hown.lt k hk).1)
      unfold Own
      rw [List.length_append, hr.len, ← bcells_append]
      exact ho'

/-- In a plain region. -/
theorem app {w : World} {ops : Array Oper} {rest : List Oper} {o : Oper} {a : Act} {Q : Exit → Act → World → Prop} (hgd : o.guard = none) (s x : Operand)
    (ho : o.op = .call { callee := .builtin .append, args := #[s, x], argTypes := #[37, 37] })
    (B : Nat) (v : Value) (ys : List Int) (hs : a.eval s = v) (hown : Own w B v ys) (ao : Option Addr) (m c : Nat) (xs : List Int) (hx : a.eval x = .slice ao m c) (hr : Ints .u8 w ao m xs)
    (hmax : ys.length + m ≤ 1099511627776) (hbase : B ≤ w.heap.size)
    (h : ∀ v' w', Own w' B v' (ys ++ xs) → Below B w w' → wpList Tryz.prog ops Q rest (a.put o.dst v') w') : wpList Tryz.prog ops Q (o :: rest) a w :=
  wpList_plain hgd fun _ hK => wp_app s x ho B v ys hs hown ao m c xs hx hr hmax hbase fun v' w' h1 h2 => hK _ _ (h v' w' h1 h2)

/-- At a step of a region that draws its order. -/
theorem step_app {w : World} {ops : Array Oper} {o : Oper} {a : Act} {K : Act → World → Prop} {Q : Exit → Act → World → Prop} {E : Prop} (hgd : o.guard = none) (s x : Operand)
    (ho : o.op = .call { callee := .builtin .append, args := #[s, x], argTypes := #[37, 37] })
    (B : Nat) (v : Value) (ys : List Int) (hs : a.eval s = v) (hown : Own w B v ys) (ao : Option Addr) (m c : Nat) (xs : List Int) (hx : a.eval x = .slice ao m c) (hr : Ints .u8 w ao m xs)
    (hmax : ys.length + m ≤ 1099511627776) (hbase : B ≤ w.heap.size)
    (h : ∀ v' w', Own w' B v' (ys ++ xs) → Below B w w' → K (a.put o.dst v') w') :
    if Region.wanted o (yielded ops a.tmps) = true then Oper.wp Tryz.prog o a w K Q else E := by
  have hw : Region.wanted o (yielded ops a.tmps) = true := by simp [Region.wanted, hgd]
  rw [if_pos hw]
  exact wp_app s x ho B v ys hs hown ao m c xs hx hr hmax hbase h

/-- A literal slice of bytes that the call builds. -/
theorem Own.built (w : World) (B : Nat) (cs : Array Value) (xs : List Int) (n : Nat) (hc : cs.toList = bcells xs) (hn : xs.length = n) (hB : B ≤ w.heap.size) (hx : xs.length ≤ 1099511627776) :
    Own (w.alloc (.cells cs 5)) B (.slice (some ⟨w.heap.size, 0, none⟩) n n) xs := by
  subst hn
  have hs : cs.size = xs.length := by rw [← Array.length_toList, hc, bcells_length]
  have h := World.ownsRow_lit (base := B) (e := 5) (size := 1) w cs xs.length hB (by unfold maxLen; omega) (by omega)
  unfold Own
  rw [← hc]
  exact h

end Go.Proofs.YtbjogkpepfgegaaGreatDoor
