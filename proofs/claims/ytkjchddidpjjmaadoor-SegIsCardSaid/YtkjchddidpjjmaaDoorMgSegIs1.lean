/- Texts of this seat in one file (Plain, Base, Frame, Err, FrameD, Bits, Sum, Own, Mem, Six, Flow, Seg): contracts and plain laws. Conditions: as each lemma states them. -/
import Derived.KernelRfl
import Derived.WalkKit
import Derived.WalkSmall
import Derived.Below
import Derived.Lib.Hide
import Derived.BigQuiet
import Derived.Deep.QuietTactic
import Derived.Handy
import Derived.Test.YtkjchddidpjjmaaDoorProg
import Derived.Test.YtkjchddidpjjmaaDoorRows
import Derived.ProofKit
import Derived.OpenShut
import Derived.ShutString
import Derived.ChangeOld
import Derived.LaidEql
import Derived.Stop.Asserts
import Derived.RowKitTokens
import Derived.ChangeSame
import Derived.ChangeVars
import Derived.JoinedOf
import Derived.LaidLaws
import Derived.LaidHandle
import Derived.Stop.Joined
import Derived.Laws.BitsLemmas
import Derived.Laws.BitsAllLaws
import Derived.OwnWalk
import Derived.Laws.AppendOwnNone
import Derived.Laws.Rows
import Derived.Deep.Draws
import Derived.Deep.MidRow
import Derived.StillTailTactics
/- Plain arithmetic of sums of bytes (no program in sight): what a fold is, what a sum of parts is. Conditions: as each lemma states them. -/
namespace Go.Proofs.YtkjchddidpjjmaaDoor.Pl

/-- What a number comes to when its carries are added in. -/
def fold (n : Int) : Int := if n = 0 then 0 else (n - 1) % 65535 + 1

theorem fold_lo (n : Int) : 0 ≤ fold n := by unfold fold; split <;> omega
theorem fold_hi (n : Int) : fold n ≤ 65535 := by unfold fold; split <;> omega
theorem fold_zero : fold 0 = 0 := rfl
theorem fold_pos {n : Int} (h : n ≠ 0) : 1 ≤ fold n := by unfold fold; rw [if_neg h]; omega
theorem fold_small {n : Int} (h0 : 0 ≤ n) (h : n ≤ 65535) : fold n = n := by unfold fold; split <;> omega
theorem fold_step {n : Int} (h : 65535 < n) : fold (n % 65536 + n / 65536) = fold n := by
  unfold fold
  rw [if_neg (by omega), if_neg (by omega)]
  omega
/-- Two numbers that are alike by 65535, neither of them 0. -/
theorem fold_congr {a b k : Int} (ha : a ≠ 0) (hb : b ≠ 0) (h : a = b + 65535 * k) : fold a = fold b := by
  unfold fold
  rw [if_neg ha, if_neg hb]
  omega
theorem fold_eq (n : Int) : ∃ k, fold n = n + 65535 * k := by
  unfold fold
  split
  · exact ⟨0, by omega⟩
  · exact ⟨-((n - 1) / 65535), by omega⟩

/-- The sum of bytes, the first of them at an even place where p is even. -/
def raw : Nat → List Int → Int
  | _, [] => 0
  | p, x :: r => (if p % 2 = 0 then 256 * x else x) + raw (p + 1) r

/-- Each is a byte. -/
def IsB (l : List Int) : Prop := ∀ x ∈ l, 0 ≤ x ∧ x ≤ 255

theorem IsB.of {l : List Int} (h : l.all (fun x => decide (0 ≤ x ∧ x ≤ 255)) = true) : IsB l := fun x hx => by
  have := List.all_eq_true.1 h x hx
  simpa using this
theorem IsB.nil : IsB [] := fun _ h => by cases h
theorem IsB.append {a b : List Int} (ha : IsB a) (hb : IsB b) : IsB (a ++ b) := fun x hx => by
  rcases List.mem_append.1 hx with h | h
  · exact ha x h
  · exact hb x h
theorem IsB.left {a b : List Int} (h : IsB (a ++ b)) : IsB a := fun x hx => h x (List.mem_append_left _ hx)
theorem IsB.right {a b : List Int} (h : IsB (a ++ b)) : IsB b := fun x hx => h x (List.mem_append_right _ hx)
theorem IsB.take {a : List Int} (h : IsB a) (n : Nat) : IsB (a.take n) := fun x hx => h x (List.mem_of_mem_take hx)
theorem IsB.drop {a : List Int} (h : IsB a) (n : Nat) : IsB (a.drop n) := fun x hx => h x (List.mem_of_mem_drop hx)
theorem IsB.cons {x : Int} {a : List Int} (h0 : 0 ≤ x) (h1 : x ≤ 255) (h : IsB a) : IsB (x :: a) := fun y hy => by
  rcases List.mem_cons.1 hy with rfl | hy
  · exact ⟨h0, h1⟩
  · exact h y hy
theorem IsB.getD {a : List Int} (h : IsB a) (i : Nat) : 0 ≤ a.getD i 0 ∧ a.getD i 0 ≤ 255 := by
  rw [List.getD_eq_getElem?_getD]
  rcases Nat.lt_or_ge i a.length with hi | hi
  · rw [List.getElem?_eq_getElem hi]; exact h _ (List.getElem_mem hi)
  · rw [List.getElem?_eq_none hi]; exact ⟨by simp, by simp⟩
theorem IsB.set {a : List Int} (h : IsB a) (i : Nat) {x : Int} (h0 : 0 ≤ x) (h1 : x ≤ 255) : IsB (a.set i x) := fun y hy => by
  rcases List.mem_or_eq_of_mem_set hy with hy | rfl
  · exact h y hy
  · exact ⟨h0, h1⟩

theorem raw_append (xs ys : List Int) : ∀ p, raw p (xs ++ ys) = raw p xs + raw (p + xs.length) ys := by
  induction xs with
  | nil => intro p; simp [raw]
  | cons x r ih =>
    intro p
    simp only [List.cons_append, raw, ih, List.length_cons]
    rw [show p + 1 + r.length = p + (r.length + 1) from by omega]
    omega
theorem raw_even (xs : List Int) : ∀ p, raw (p + 2) xs = raw p xs := by
  induction xs with
  | nil => intro p; rfl
  | cons x r ih =>
    intro p
    simp only [raw]
    rw [show p + 2 + 1 = (p + 1) + 2 from by omega, ih, Nat.add_mod_right]
theorem raw_par (xs : List Int) (p : Nat) (h : p % 2 = 0) : raw p xs = raw 0 xs := by
  obtain ⟨k, rfl⟩ : ∃ k, p = 2 * k := ⟨p / 2, by omega⟩
  clear h
  induction k with
  | zero => rfl
  | succ k ih => rw [show 2 * (k + 1) = 2 * k + 2 from by omega, raw_even, ih]
theorem raw_snoc (xs : List Int) (x : Int) : raw 0 (xs ++ [x]) = raw 0 xs + (if xs.length % 2 = 0 then 256 * x else x) := by
  rw [raw_append]; simp [raw]
theorem raw_bd {xs : List Int} (h : IsB xs) : ∀ p, 0 ≤ raw p xs ∧ raw p xs ≤ 65280 * xs.length := by
  induction xs with
  | nil => intro p; simp [raw]
  | cons x r ih =>
    intro p
    have hx := h x (List.mem_cons_self ..)
    have hr := ih (fun y hy => h y (List.mem_cons_of_mem _ hy)) (p + 1)
    simp only [raw, List.length_cons]
    split <;> omega
/-- The sum of both parts, the first one of an even number. -/
theorem raw_parts (xs ys : List Int) (h : xs.length % 2 = 0) : raw 0 (xs ++ ys) = raw 0 xs + raw 0 ys := by
  rw [raw_append, Nat.zero_add, raw_par _ _ h]

/-- One byte in the place of another. -/
theorem raw_set (xs : List Int) (y : Int) : ∀ p i, i < xs.length → raw p (xs.set i y) = raw p xs + (if (p + i) % 2 = 0 then 256 * (y - xs.getD i 0) else y - xs.getD i 0) := by
  induction xs with
  | nil => intro p i hi; simp at hi
  | cons x r ih =>
    intro p i hi
    cases i with
    | zero => simp only [List.set_cons_zero, raw, List.getD_cons_zero, Nat.add_zero]; split <;> omega
    | succ i =>
      simp only [List.set_cons_succ, raw, List.getD_cons_succ]
      rw [ih (p + 1) i (by simpa using hi), show p + 1 + i = p + (i + 1) from by omega]
      omega

/-- WHAT IS SWAPPED IS SUMMED ANEW. -/
theorem swaps (was old to now : Int) (hwas : ∃ s, was = fold s ∧ 0 ≤ s ∧ old ≤ s ∧ now = fold (s - old + to)) (ho : 0 ≤ old) (ho' : old ≤ 65535) (ht : 0 ≤ to) (ht' : to ≤ 65535) :
    now = 0 ∨ 65535 - fold (fold (65535 - (65535 - was) + 65535 - old) + to) = 65535 - now := by
  obtain ⟨s, rfl, hs, hos, rfl⟩ := hwas
  by_cases hz : s - old + to = 0
  · left; rw [hz]; rfl
  · right
    have hw0 := fold_lo s
    obtain ⟨k1, e1⟩ := fold_eq s
    obtain ⟨k2, e2⟩ := fold_eq (65535 - (65535 - fold s) + 65535 - old)
    have key : fold (65535 - (65535 - fold s) + 65535 - old) + to ≠ 0 := by
      intro hc
      have hl := fold_lo (65535 - (65535 - fold s) + 65535 - old)
      have h1 : fold (65535 - (65535 - fold s) + 65535 - old) = 0 := by omega
      have h2 : ¬ (65535 - (65535 - fold s) + 65535 - old ≠ 0) := fun hn => by have := fold_pos hn; omega
      have h3 : fold s = 0 ∧ old = 65535 := by omega
      have h4 : ¬ s ≠ 0 := fun hn => by have := fold_pos hn; omega
      omega
    rw [fold_congr (k := k1 + k2 + 1) key hz (by omega)]

/-- The sum of two sums. -/
theorem fold_add {a b : Int} (ha : 0 ≤ a) (hb : 0 ≤ b) : fold (fold a + fold b) = fold (a + b) := by
  by_cases h : a + b = 0
  · have : a = 0 := by omega
    have : b = 0 := by omega
    subst a b; rfl
  · obtain ⟨k1, e1⟩ := fold_eq a
    obtain ⟨k2, e2⟩ := fold_eq b
    have hn : fold a + fold b ≠ 0 := by
      have h1 := fold_lo a
      have h2 := fold_lo b
      by_cases h0 : a = 0
      · have := fold_pos (n := b) (by omega); omega
      · have := fold_pos (n := a) h0; omega
    exact fold_congr (k := k1 + k2) hn h (by omega)
/-- A sum with its check behind it. -/
theorem fold_check {n : Int} (h : 0 ≤ n) : fold (n + (65535 - fold n)) = 65535 := by
  have h1 := fold_lo n
  have h2 := fold_hi n
  unfold fold at *
  split at * <;> split at * <;> omega

end Go.Proofs.YtkjchddidpjjmaaDoor.Pl
/- Words on slices of numbers in memory, used by the walks of this seat. Conditions: as each lemma states them. -/
namespace Go.Proofs.YtkjchddidpjjmaaDoor
open Go.RowKit

/-- A slice's value shows the numbers xs, each of kind k. -/
def Ints (k : IntKind) (w : World) (a : Option Addr) (n : Nat) (xs : List Int) : Prop :=
  xs.length = n ∧ (n = 0 ∨ ∃ b off, a = some ⟨b, off, none⟩ ∧ ∀ i, i < n → w.cell? ⟨b, off + i, none⟩ = some (.int k (xs.getD i 0)))

theorem Ints.len {k : IntKind} {w : World} {a : Option Addr} {n : Nat} {xs : List Int} (h : Ints k w a n xs) : xs.length = n := h.1

theorem Ints.at {k : IntKind} {w : World} {a : Option Addr} {n : Nat} {xs : List Int} (h : Ints k w a n xs) (hn : 0 < n) :
    ∃ b off, a = some ⟨b, off, none⟩ ∧ b < w.heap.size ∧ ∀ i, i < n → w.cell? ⟨b, off + i, none⟩ = some (.int k (xs.getD i 0)) := by
  rcases h.2 with h0 | ⟨b, off, rfl, hc⟩
  · omega
  · exact ⟨b, off, rfl, World.block_lt_of_cell? w _ (hc 0 hn), hc⟩

theorem Ints.nil {k : IntKind} {w : World} {a : Option Addr} : Ints k w a 0 [] := ⟨rfl, .inl rfl⟩

theorem Ints.below {k : IntKind} {w w' : World} {a : Option Addr} {n : Nat} {xs : List Int} (h : Ints k w a n xs) (hb : Below w.heap.size w w') : Ints k w' a n xs := by
  refine ⟨h.1, ?_⟩
  rcases h.2 with h0 | ⟨b, off, rfl, hc⟩
  · exact .inl h0
  · refine .inr ⟨b, off, rfl, fun i hi => ?_⟩
    have := hc i hi
    rw [hb.cell (World.block_lt_of_cell? w _ this)]
    exact this

theorem Ints.drew {k : IntKind} {w : World} {a : Option Addr} {n : Nat} {xs : List Int} (h : Ints k w a n xs) : Ints k w.drew a n xs := h
theorem Ints.drewN {k : IntKind} {w : World} {a : Option Addr} {n : Nat} {xs : List Int} (h : Ints k w a n xs) (q : Nat) : Ints k (w.drewN q) a n xs := h

theorem take_snoc (xs : List Int) (k : Nat) (h : k < xs.length) : xs.take (k + 1) = xs.take k ++ [xs.getD k 0] := by
  rw [List.take_succ_eq_append_getElem h]; simp [List.getD, h]

theorem ret_int {k : IntKind} {a b : Int} (h : a = b) : Ending.returned (.int k a) = .returned (.int k b) := by rw [h]
theorem ret_bool {a b : Bool} (h : a = b) : Ending.returned (.bool a) = .returned (.bool b) := by rw [h]
theorem val_int {k : IntKind} {a b : Int} (h : a = b) : Value.int k a = .int k b := by rw [h]

theorem Ints.dropped {k : IntKind} {w : World} {b off n : Nat} {xs : List Int} (h : Ints k w (some ⟨b, off, none⟩) n xs) (lo c : Nat) (hlo : lo ≤ n) (hc : n ≤ c) :
    Ints k w (if c = lo then some ⟨b, off, none⟩ else some ⟨b, off + lo, none⟩) (n - lo) (xs.drop lo) := by
  refine ⟨by rw [List.length_drop, h.1], ?_⟩
  by_cases hz : n - lo = 0
  · exact .inl hz
  · rw [if_neg (by omega)]
    obtain ⟨b', off', hb, _, hcell⟩ := h.at (by omega)
    simp only [Option.some.injEq, Addr.mk.injEq, and_true] at hb
    obtain ⟨rfl, rfl⟩ := hb
    refine .inr ⟨_, _, rfl, fun i hi => ?_⟩
    have := hcell (lo + i) (by omega)
    rw [Nat.add_assoc, this]
    simp [List.getD, List.getElem?_drop]
theorem Ints.sub {k : IntKind} {w : World} {b off n : Nat} {xs : List Int} (h : Ints k w (some ⟨b, off, none⟩) n xs) (lo hi : Nat) (hlo : lo ≤ hi) (hhi : hi ≤ n) :
    Ints k w (some ⟨b, off + lo, none⟩) (hi - lo) ((xs.drop lo).take (hi - lo)) := by
  refine ⟨by rw [List.length_take, List.length_drop, h.1]; omega, ?_⟩
  by_cases hz : hi - lo = 0
  · exact .inl hz
  · obtain ⟨b', off', hb, _, hcell⟩ := h.at (by omega)
    simp only [Option.some.injEq, Addr.mk.injEq, and_true] at hb
    obtain ⟨rfl, rfl⟩ := hb
    refine .inr ⟨_, _, rfl, fun i hi => ?_⟩
    have := hcell (lo + i) (by omega)
    rw [Nat.add_assoc, this]
    simp [List.getD, List.getElem?_drop, hi]
/-- The six cells of a block that is known whole. -/
theorem box6 {W : World} {B : Nat} {v0 v1 v2 v3 v4 v5 : Value} {t : TypeId} (h : W.heap[B]? = some (.cells #[v0, v1, v2, v3, v4, v5] t)) :
    W.cell? ⟨B, 0, none⟩ = some v0 ∧ W.cell? ⟨B, 1, none⟩ = some v1 ∧ W.cell? ⟨B, 2, none⟩ = some v2 ∧ W.cell? ⟨B, 3, none⟩ = some v3 ∧ W.cell? ⟨B, 4, none⟩ = some v4 ∧ W.cell? ⟨B, 5, none⟩ = some v5 := by
  simp [World.cell?, h]
/-- A mark at which the walk stands. -/
def Halt (p : Prop) : Prop := p
theorem Halt.out {p : Prop} (h : Halt p) : p := h
theorem Halt.mk {p : Prop} (h : p) : Halt p := h

end Go.Proofs.YtkjchddidpjjmaaDoor
/- What an argument of a law is, once it is read: bytes, numbers. Conditions: as each lemma states them. -/
namespace Go.Proofs.YtkjchddidpjjmaaDoor
open Go.ChangeShapes Go.WideShapes Go.ChangeAt Go.RowKit

theorem own : ownKnob Tryd.prog.godebug = none := by kernel_rfl
theorem laidOut : laidOutB Tryd.prog = true := by kernel_rfl

theorem wf_u8 {x : Int} (h : (Lit.int .u8 x).wf = true) : 0 ≤ x ∧ x ≤ 255 := by
  simp [Lit.wf, IntKind.min, IntKind.max, IntKind.signed, IntKind.bits] at h
  omega
theorem wf_i64 {x : Int} (h : (Lit.int .i64 x).wf = true) : -9223372036854775808 ≤ x ∧ x ≤ 9223372036854775807 := by
  simp [Lit.wf, IntKind.min, IntKind.max, IntKind.signed, IntKind.bits] at h
  omega

/-- A slice of bytes that came in. -/
def IsBytes (w : World) (a : Option Addr) (n c : Nat) (xs : List Int) : Prop := Ints .u8 w a n xs ∧ Pl.IsB xs ∧ n ≤ c ∧ c ≤ maxLen
/-- A number that came in. -/
def IsInt (x : Int) : Prop := -9223372036854775808 ≤ x ∧ x ≤ 9223372036854775807

theorem ints_of_cells {k : IntKind} {w : World} {a : Addr} {len cap : Nat} {zs : List Int} (hl : len ≤ cap) (hz : zs.length = cap) (hcell : ∀ i, i < zs.length → w.cell? (a.add i) = some (.int k (zs.getD i 0))) : Ints k w (some a) len (zs.take len) := by
  refine ⟨by rw [List.length_take]; omega, ?_⟩
  rcases Nat.eq_zero_or_pos len with h0 | h0
  · exact .inl h0
  · refine .inr ?_
    obtain ⟨b, off, spot⟩ := a
    have hc := hcell 0 (by omega)
    have hspot : spot = none := by simpa [Addr.add] using World.cell?_spot hc
    subst hspot
    refine ⟨b, off, rfl, fun i hi => ?_⟩
    have h := hcell i (by omega)
    rw [Addr.add_lit] at h
    rw [h]
    simp [List.getD, hi]

theorem open_bytes {H : Type} {enc : TypeId × Value → H} {W : World} {a : Option Addr} {n c : Nat} {d : DataW H} {p : List MemPlace}
    (h : DataW.Trod enc Tryd.prog W 0 (fun _ => true) true 40 (.slice a n c) d p) : ∃ xs, IsBytes W a n c xs := by
  obtain ⟨fuel, hf⟩ := h
  rcases open_ints Tryd.underlying40 Tryd.underlying5 (by kernel_rfl) hf with ⟨hcs, _⟩ | ⟨x, l, c', zs, hcs, _, hl, hm, hz, _, hcell, hwz⟩
  · simp [Value.cells] at hcs
    obtain ⟨rfl, rfl, rfl⟩ := hcs
    exact ⟨[], Ints.nil, Pl.IsB.nil, Nat.le_refl _, Nat.zero_le _⟩
  · simp [Value.cells] at hcs
    obtain ⟨rfl, rfl, rfl⟩ := hcs
    exact ⟨zs.take n, ints_of_cells hl (by simpa using hz) hcell, fun y hy => wf_u8 (hwz y (List.mem_of_mem_take hy)), hl, hm⟩

end Go.Proofs.YtkjchddidpjjmaaDoor
/- errors.As at a target that is an Errno, plain.Told and gangplanksame.Error: what they answer of nil and of an Errno. After the kit's worked toy 'toyas', turned to this program's types. Conditions: the variable errors.errorType holds the handle that the row lists. -/
namespace Go.Proofs.YtkjchddidpjjmaaDoor
open Go.RowKit Go.Extern.Stop Go.Stop Go.Extern

theorem Tryd.valueOfT (t : Addr) (w : World) : (ReflectliteValue.unpack (.iface 130 (.pointer (some t)))).run Tryd.prog w
    = .ok (.agg #[.pointer (some ⟨1, 130, none⟩), .pointer (some ⟨w.heap.size, 0, none⟩), .int .u64 150]) (w.alloc (.cells #[.pointer (some t)] 130)) := by kernel_rfl
theorem Tryd.typeT (a : Addr) (w : World) : (ReflectliteValue.methodAny (ReflectliteValue.valueError "reflectlite.Value.Type" 0) (fun t _ _ _ => ReflectliteType.toType t) #[.agg #[.pointer (some ⟨1, 130, none⟩), .pointer (some a), .int .u64 150]]).run Tryd.prog w
    = .ok (.iface 153 (.agg #[.pointer (some ⟨1, 130, none⟩)])) w := by kernel_rfl
theorem Tryd.methodKind (h : Value) (w : World) : (Go.method 295 153 (.agg #[h]) "Kind").run Tryd.prog w = .ok (122, h) w := by kernel_rfl
theorem Tryd.kindT (w : World) : ((ReflectliteType.abiMethod fun t => (fun a : Nat => Value.int IntKind.u8 (a : Int)) <$> Rtype.kind t) #[.pointer (some ⟨1, 130, none⟩)]).run Tryd.prog w = .ok (.int .u8 22) w := by kernel_rfl
theorem Tryd.kindE (w : World) : ((ReflectliteType.abiMethod fun t => (fun a : Nat => Value.int IntKind.u8 (a : Int)) <$> Rtype.kind t) #[.pointer (some ⟨1, 24, none⟩)]).run Tryd.prog w = .ok (.int .u8 2) w := by kernel_rfl
theorem Tryd.methodElem (h : Value) (w : World) : (Go.method 295 153 (.agg #[h]) "Elem").run Tryd.prog w = .ok (132, .agg #[h]) w := by kernel_rfl
theorem Tryd.methodImplements (h : Value) (w : World) : (Go.method 295 153 (.agg #[h]) "Implements").run Tryd.prog w = .ok (133, .agg #[h]) w := by kernel_rfl
theorem Tryd.methodAssignableTo (h : Value) (w : World) : (Go.method 295 153 (.agg #[h]) "AssignableTo").run Tryd.prog w = .ok (130, .agg #[h]) w := by kernel_rfl
theorem Tryd.elemT (w : World) : (ReflectliteType.method ReflectliteType.elem #[.agg #[.pointer (some ⟨1, 130, none⟩)]]).run Tryd.prog w = .ok (.iface 153 (.agg #[.pointer (some ⟨1, 24, none⟩)])) w := by kernel_rfl
theorem Tryd.implementsE (w : World) : (ReflectliteType.relation "Implements" ReflectliteType.implements_ #[.agg #[.pointer (some ⟨1, 24, none⟩)], .iface 153 (.agg #[.pointer (some ⟨1, 28, none⟩)])]).run Tryd.prog w = .ok (.bool true) w := by kernel_rfl
theorem Tryd.typeOfE (v : Value) (w : World) : (ReflectliteType.typeOf #[.iface 24 v]).run Tryd.prog w = .ok (.iface 153 (.agg #[.pointer (some ⟨1, 24, none⟩)])) w := by kernel_rfl
theorem Tryd.assignableE (w : World) : (ReflectliteType.relation "AssignableTo" ReflectliteType.assignableTo #[.agg #[.pointer (some ⟨1, 24, none⟩)], .iface 153 (.agg #[.pointer (some ⟨1, 24, none⟩)])]).run Tryd.prog w = .ok (.bool true) w := by kernel_rfl
theorem Tryd.valueOfE (n : Int) (w : World) : (ReflectliteValue.unpack (.iface 24 (.int .i64 n))).run Tryd.prog w
    = .ok (.agg #[.pointer (some ⟨1, 24, none⟩), .pointer (some ⟨w.heap.size, 0, none⟩), .int .u64 130]) (w.alloc (.cells #[.int .i64 n] 24)) := by kernel_rfl

/-! The entries that read or write memory. -/
theorem rlm (z : Sem Value) (f : TypeId → Addr → Nat → Nat → Sem Value) (v : Value) :
    ReflectliteValue.method z f #[v] = (do match ← ReflectliteValue.parts v with | none => z | some (t, a, fl) => f t a fl (fl % 32)) := rfl
theorem Tryd.partsT (a : Addr) (w : World) : (ReflectliteValue.parts (.agg #[.pointer (some ⟨1, 130, none⟩), .pointer (some a), .int .u64 150])).run Tryd.prog w = .ok (some (130, a, 150)) w := by kernel_rfl
/-- (Value).IsNil at the Value of a target that is not nil. -/
theorem Tryd.isNilT (a p : Addr) (W : World) (ha : W.cell? a = some (.pointer (some p))) :
    (ReflectliteValue.method (ReflectliteValue.valueError "reflectlite.Value.IsNil" 0) ReflectliteValue.isNil #[.agg #[.pointer (some ⟨1, 130, none⟩), .pointer (some a), .int .u64 150]]).run Tryd.prog W = .ok (.bool false) W := by
  rw [rlm]
  simp only [Sem.run_bind, Tryd.partsT, Result.andThen]
  simp [ReflectliteValue.isNil, loadVar, isAgg, underlying, Tryd.underlying130, ha, Result.andThen]
theorem Tryd.elemOfT (w : World) : (Rtype.elem? 130).run Tryd.prog w = .ok (some 24) w := by kernel_rfl
theorem Tryd.mkE (p : Addr) (w : World) : (ReflectliteValue.mk 24 p ReflectliteValue.flagAddr).run Tryd.prog w = .ok (.agg #[.pointer (some ⟨1, 24, none⟩), .pointer (some p), .int .u64 386]) w := by kernel_rfl
/-- (Value).Elem at the Value of the target: the Value of the variable that it points to. -/
theorem Tryd.elemVT (a p : Addr) (W : World) (ha : W.cell? a = some (.pointer (some p))) :
    (ReflectliteValue.method (ReflectliteValue.valueError "reflectlite.Value.Elem" 0) ReflectliteValue.elem #[.agg #[.pointer (some ⟨1, 130, none⟩), .pointer (some a), .int .u64 150]]).run Tryd.prog W
      = .ok (.agg #[.pointer (some ⟨1, 24, none⟩), .pointer (some p), .int .u64 386]) W := by
  rw [rlm]
  simp only [Sem.run_bind, Tryd.partsT, Result.andThen]
  simp [ReflectliteValue.elem, loadVar, isAgg, underlying, Tryd.underlying130, ha, Result.andThen, Tryd.elemOfT, Tryd.mkE]
theorem rls (v x : Value) : ReflectliteValue.set #[v, x] = (do
    let (some (dst, a, fl), some (src, b, _)) := (← ReflectliteValue.parts v, ← ReflectliteValue.parts x)
      | unsupported (.noEntry "extern/(internal/reflectlite.Value).Set.zeroValue")
    if fl / ReflectliteValue.flagAddr % 2 == 0 then unsupported (.noEntry "extern/(internal/reflectlite.Value).Set.unaddressable")
    let val ← loadVar src b
    if ← Rtype.directlyAssignable dst src then storeVar dst a val
    else if ← Rtype.implements dst src then
      if (← Rtype.kind src) == 20 then
        match val with
        | .nilIface => unsupported (.noEntry "extern/reflectlite: a nil value of one interface type handed on as a value of another")
        | _ => storeVar dst a val
      else storeVar dst a (.iface src val)
    else panicString ("reflectlite.Set: value of type " ++ (← Rtype.spelt src) ++ " is not assignable to type " ++ (← Rtype.spelt dst))
    pure (.tuple #[])) := rfl
theorem Tryd.partsEa (a : Addr) (w : World) : (ReflectliteValue.parts (.agg #[.pointer (some ⟨1, 24, none⟩), .pointer (some a), .int .u64 386])).run Tryd.prog w = .ok (some (24, a, 386)) w := by kernel_rfl
theorem Tryd.partsE (a : Addr) (w : World) : (ReflectliteValue.parts (.agg #[.pointer (some ⟨1, 24, none⟩), .pointer (some a), .int .u64 130])).run Tryd.prog w = .ok (some (24, a, 130)) w := by kernel_rfl
theorem Tryd.directE (w : World) : (Rtype.directlyAssignable 24 24).run Tryd.prog w = .ok true w := by kernel_rfl
theorem Tryd.sizeE (w : World) : (sizeOf 24).run Tryd.prog w = .ok 1 w := by kernel_rfl
/-- (Value).Set: the Errno at 'ta' gets what the Value's own variable 'b' holds. -/
theorem Tryd.setE (ta b : Addr) (n : Int) (old : Value) (W : World) (hb : W.cell? b = some (.int .i64 n)) (ht : W.cell? ta = some old) (hf : W.frozen? ta = false) :
    (ReflectliteValue.set #[.agg #[.pointer (some ⟨1, 24, none⟩), .pointer (some ta), .int .u64 386], .agg #[.pointer (some ⟨1, 24, none⟩), .pointer (some b), .int .u64 130]]).run Tryd.prog W
      = .ok (.tuple #[]) (W.setCell ta (.int .i64 n)) := by
  rw [rls]
  simp only [Sem.run_bind, Tryd.partsEa, Tryd.partsE, Result.andThen]
  simp [ReflectliteValue.flagAddr, loadVar, isAgg, underlying, Tryd.underlying24, hb, Result.andThen, Tryd.directE, storeVar, Value.cells, storeCells, Addr.add]
  rw [run_store Tryd.prog W ta _ _ (by rfl)]
  simp [ht, hf]

/-- What the handle's variable holds. -/
def Handle (w : World) : Prop := w.cell? ⟨0, 0, none⟩ = some (.iface 153 (.agg #[.pointer (some ⟨1, 28, none⟩)]))

set_option maxHeartbeats 4000000 in
theorem as_hit (n : Int) (t : Addr) (old : Value) (w : World) (hg : Handle w) (ht0 : w.cell? t = some old) (hf0 : w.frozen? t = false) :
    Calls Tryd.prog 90 #[.iface 24 (.int .i64 n), .iface 130 (.pointer (some t))] w fun ev w' => ev = .returned (.bool true) ∧ ∃ X : World, Below w.heap.size w X ∧ w' = X.setCell t (.int .i64 n) := by
  unfold Handle at hg
  have h6 := @run_callFunc_extern Tryd.prog 100 _ (fun args => ReflectliteValue.unpack (args.getD 0 (.tuple #[]))) Tryd.func100 (by kernel_rfl) (by kernel_rfl) (by kernel_rfl) (by kernel_rfl)
  have h7 := @run_callFunc_extern Tryd.prog 101 _ (ReflectliteValue.methodAny (ReflectliteValue.valueError "reflectlite.Value.Type" 0) (fun t _ _ _ => ReflectliteType.toType t)) Tryd.func101 (by kernel_rfl) (by kernel_rfl) (by kernel_rfl) (by kernel_rfl)
  have h8 := @run_callFunc_extern Tryd.prog 102 _ (ReflectliteValue.method (ReflectliteValue.valueError "reflectlite.Value.IsNil" 0) ReflectliteValue.isNil) Tryd.func102 (by kernel_rfl) (by kernel_rfl) (by kernel_rfl) (by kernel_rfl)
  have h27 := @run_callFunc_extern Tryd.prog 122 _ (ReflectliteType.abiMethod fun t => do pure (.int .u8 (← Rtype.kind t))) Tryd.func122 (by kernel_rfl) (by kernel_rfl) (by kernel_rfl) (by kernel_rfl)
  have h37 := @run_callFunc_extern Tryd.prog 132 _ (ReflectliteType.method ReflectliteType.elem) Tryd.func132 (by kernel_rfl) (by kernel_rfl) (by kernel_rfl) (by kernel_rfl)
  have h38 := @run_callFunc_extern Tryd.prog 133 _ (ReflectliteType.relation "Implements" ReflectliteType.implements_) Tryd.func133 (by kernel_rfl) (by kernel_rfl) (by kernel_rfl) (by kernel_rfl)
  have h10 := @run_callFunc_extern Tryd.prog 105 _ ReflectliteType.typeOf Tryd.func105 (by kernel_rfl) (by kernel_rfl) (by kernel_rfl) (by kernel_rfl)
  have h35 := @run_callFunc_extern Tryd.prog 130 _ (ReflectliteType.relation "AssignableTo" ReflectliteType.assignableTo) Tryd.func130 (by kernel_rfl) (by kernel_rfl) (by kernel_rfl) (by kernel_rfl)
  have h11 := @run_callFunc_extern Tryd.prog 106 _ (ReflectliteValue.method (ReflectliteValue.valueError "reflectlite.Value.Elem" 0) ReflectliteValue.elem) Tryd.func106 (by kernel_rfl) (by kernel_rfl) (by kernel_rfl) (by kernel_rfl)
  have h12 := @run_callFunc_extern Tryd.prog 107 _ ReflectliteValue.set Tryd.func107 (by kernel_rfl) (by kernel_rfl) (by kernel_rfl) (by kernel_rfl)
  have tO := Tryd.typeOfE
  have mA := Tryd.methodAssignableTo
  have a25 := Tryd.assignableE
  have v25 := Tryd.valueOfE
  have f6 := Tryd.valueOfT
  have f7 := Tryd.typeT
  have mK := Tryd.methodKind
  have mE := Tryd.methodElem
  have mI := Tryd.methodImplements
  have k27 := Tryd.kindT
  have k25 := Tryd.kindE
  have e27 := Tryd.elemT
  have i25 := Tryd.implementsE
  have n8 := Tryd.isNilT ⟨w.heap.size, 0, none⟩ t ((w.alloc (.cells #[.pointer (some t)] 130)).alloc (.cells #[.pointer (some ⟨1, 130, none⟩), .pointer (some ⟨w.heap.size, 0, none⟩), .int .u64 150] 142)) (by simp)
  have hlt : 0 < w.heap.size := by
    rcases Nat.lt_or_ge 0 w.heap.size with h | h
    · exact h
    · simp [World.cell?, Array.getElem?_eq_none h] at hg
  have hg2 : ((w.alloc (.cells #[.pointer (some t)] 130)).alloc (.cells #[.pointer (some ⟨1, 130, none⟩), .pointer (some ⟨w.heap.size, 0, none⟩), .int .u64 150] 142)).cell? ⟨0, 0, none⟩ = some (.iface 153 (.agg #[.pointer (some ⟨1, 28, none⟩)])) := by
    rw [World.cell?_alloc_lt _ _ ⟨0, 0, none⟩ (by simp), World.cell?_alloc_lt _ _ ⟨0, 0, none⟩ hlt]; exact hg
  have htl : t.block < w.heap.size := by
    rcases Nat.lt_or_ge t.block w.heap.size with h | h
    · exact h
    · simp [World.cell?, Array.getElem?_eq_none h] at ht0
  have el := Tryd.elemVT ⟨w.heap.size, 0, none⟩ t (((w.alloc (.cells #[.pointer (some t)] 130)).alloc (.cells #[.pointer (some ⟨1, 130, none⟩), .pointer (some ⟨w.heap.size, 0, none⟩), .int .u64 150] 142)).alloc (.cells #[.pointer (some ⟨1, 130, none⟩), .pointer (some ⟨w.heap.size, 0, none⟩), .int .u64 150] 142)) (by rw [World.cell?_alloc_lt _ _ ⟨w.heap.size, 0, none⟩ (by simp; omega)]; simp)
  have st := Tryd.setE t ⟨w.heap.size + 1 + 1 + 1, 0, none⟩ n old ((((w.alloc (.cells #[.pointer (some t)] 130)).alloc (.cells #[.pointer (some ⟨1, 130, none⟩), .pointer (some ⟨w.heap.size, 0, none⟩), .int .u64 150] 142)).alloc (.cells #[.pointer (some ⟨1, 130, none⟩), .pointer (some ⟨w.heap.size, 0, none⟩), .int .u64 150] 142)).alloc (.cells #[.int .i64 n] 24))
    (by rw [World.cell?_alloc_at _ _ _ _ (by simp)]; rfl)
    (by rw [World.cell?_alloc_lt _ _ t (by simp; omega), World.cell?_alloc_lt _ _ t (by simp; omega), World.cell?_alloc_lt _ _ t (by simp; omega), World.cell?_alloc_lt _ _ t htl]; exact ht0)
    (by rw [World.frozen?_alloc_old _ _ t (by simp; omega), World.frozen?_alloc_old _ _ t (by simp; omega), World.frozen?_alloc_old _ _ t (by simp; omega), World.frozen?_alloc_old _ _ t (Nat.ne_of_lt htl)]; exact hf0)
  go_enter Tryd.func90, Tryd.ntmps90
  go_wp2
  refine wp_loop_rounds 1 ?_
  rw [rounds_succ]
  go_wp2
  go_ret
  exact ⟨rfl, _, by go_grown, rfl⟩
end Go.Proofs.YtkjchddidpjjmaaDoor
/- What the condition of a tied row gives: the handle in errors.errorType; a world that meets it. After the kit's worked toy 'toyas'. Conditions: as each lemma states them. -/
namespace Go.Proofs.YtkjchddidpjjmaaDoor
open Go.ChangeShapes Go.WideShapes Go.ChangeAt Go.RowKit

def laid : List (String × DataW Unit) := [("errors.errorType", Rows.laid_errors_errorType)]
theorem Tryd.et : Tryd.prog.globalNamed "errors.errorType" = some 0 := by kernel_rfl
theorem Tryd.rt : (Tryd.prog.cutTypes.find? (·.1 == "internal/reflectlite.rtype")).map (·.2) = some 153 := by kernel_rfl
theorem Tryd.oneRow : ((List.range 195).filter fun t => Tryd.prog.rowNamed t [101, 114, 114, 111, 114]) = [28] := by kernel_rfl
theorem Tryd.sizeTypes : Tryd.prog.types.size = 195 := by kernel_rfl

theorem handle_of_laid {W : World} (h : laidMetH Tryd.prog laid W) : Handle W := by
  have h' : laidMet Tryd.prog [] W ∧ handlesMet Tryd.prog laid W := h
  obtain ⟨name, u, ty, e1, e2, e3, e4, e5⟩ := h'.2 _ (List.mem_singleton.2 rfl)
  have en : name = [101, 114, 114, 111, 114] := (Option.some.inj e1).symm
  subst en
  obtain rfl := Option.some.inj (Tryd.rt.symm.trans e2)
  have hm : ty ∈ (List.range 195).filter fun t => Tryd.prog.rowNamed t [101, 114, 114, 111, 114] := List.mem_filter.2 ⟨List.mem_range.2 (by rw [← Tryd.sizeTypes]; exact e3), e4⟩
  rw [Tryd.oneRow] at hm
  obtain rfl := List.mem_singleton.1 hm
  have hh : typeHandle Tryd.prog 28 = .pointer (some ⟨1, 28, none⟩) := by kernel_rfl
  rw [hh] at e5
  have := World.var?_cell Tryd.et e5 0
  unfold Handle
  simpa using this

/-- A world that meets the condition: the settled one, the variable's cell laid. -/
noncomputable def laidWorld (os : Os) : World :=
  let w0 := World.holding Tryd.prog os ⟨#[], #[], []⟩
  { w0 with heap := w0.heap.modify 0 fun
      | .cells _ t frozen => .cells #[.iface 153 (.agg #[.pointer (some ⟨1, 28, none⟩)])] t frozen
      | o => o }
theorem laidWorld_met (os : Os) (args : Array Value) : laidMetH Tryd.prog laid ((laidWorld os).forCall (fun _ _ => 0) ⟨#[], args, []⟩).memory :=
  laidMetH_of_parts (laidMet_nil _ _) (by kernel_rfl)
theorem vars_nil {H : Type} {enc : TypeId × Value → H} {W : World} {gs : List (DataW H)} {q : List MemPlace} (hV : DataW.TrodVars enc Tryd.prog W (fun _ => true) [] gs q) : gs = [] ∧ q = [] := by
  cases gs with
  | nil => exact ⟨rfl, hV⟩
  | cons g r => exact absurd hV (by intro h; cases h)
end Go.Proofs.YtkjchddidpjjmaaDoor
/- Plain laws of the bits of an int (masks, joins), as the walk spells them. Conditions: as each lemma states them. -/
namespace Go.Proofs.YtkjchddidpjjmaaDoor

theorem two62 : (2 : Int) ^ 62 = 4611686018427387904 := by decide
theorem wraps_i64 (n : Int) (h0 : 0 ≤ n) (h1 : n < 2 ^ 62) : IntKind.i64.wrap n = n := by rw [two62] at h1; rw [IntKind.wrap_i64]; omega

theorem and_mask (i : Nat) (hi : i ≤ 62) (x m : Int) (hm : (2 : Int) ^ i - 1 = m) (h0 : 0 ≤ x) (h1 : x < 4611686018427387904) : bits .and .i64 x m = x % 2 ^ i := by
  rw [← hm]
  exact bits_mask .i64 62 (by decide) wraps_i64 i hi x h0 (by rw [two62]; exact h1)
theorem and65535 {x : Int} (h0 : 0 ≤ x) (h1 : x < 4611686018427387904) : bits .and .i64 x 65535 = x % 65536 := and_mask 16 (by decide) x _ (by decide) h0 h1
theorem and255 {x : Int} (h0 : 0 ≤ x) (h1 : x < 4611686018427387904) : bits .and .i64 x 255 = x % 256 := and_mask 8 (by decide) x _ (by decide) h0 h1
theorem and1 {x : Int} (h0 : 0 ≤ x) (h1 : x < 4611686018427387904) : bits .and .i64 x 1 = x % 2 := and_mask 1 (by decide) x _ (by decide) h0 h1

theorem or_join (i : Nat) (x y : Int) (h0 : 0 ≤ x) (hx : x % 2 ^ i = 0) (h1 : x < 4611686018427387904) (hy0 : 0 ≤ y) (hy : y < 2 ^ i) (hy1 : y < 4611686018427387904) : bits .or .i64 x y = x + y :=
  bits_join .i64 62 (by decide) wraps_i64 i x y h0 hx (by rw [two62]; exact h1) hy0 hy (by rw [two62]; exact hy1)
theorem or8 {x y : Int} (h0 : 0 ≤ x) (hx : x % 256 = 0) (h1 : x < 4611686018427387904) (hy0 : 0 ≤ y) (hy : y < 256) : bits .or .i64 x y = x + y := or_join 8 x y h0 hx h1 hy0 hy (by omega)
theorem or16 {x y : Int} (h0 : 0 ≤ x) (hx : x % 65536 = 0) (h1 : x < 4611686018427387904) (hy0 : 0 ≤ y) (hy : y < 65536) : bits .or .i64 x y = x + y := or_join 16 x y h0 hx h1 hy0 hy (by omega)
theorem or24 {x y : Int} (h0 : 0 ≤ x) (hx : x % 16777216 = 0) (h1 : x < 4611686018427387904) (hy0 : 0 ≤ y) (hy : y < 16777216) : bits .or .i64 x y = x + y := or_join 24 x y h0 hx h1 hy0 hy (by omega)

end Go.Proofs.YtkjchddidpjjmaaDoor
/- The contracts of package sum: fold, Raw, Of, number, Add, Not, Swap. Conditions: as each theorem states them. -/
namespace Go.Proofs.YtkjchddidpjjmaaDoor
open Go.RowKit

set_option maxHeartbeats 400000 in
theorem fold_any (n : Int) (w : World) (h0 : 0 ≤ n) (h1 : n < 4611686018427387904) :
    Calls Tryd.prog 74 #[.int .i64 n] w fun e w' => e = .returned (.int .i64 (Pl.fold n)) ∧ w = w' := by
  go_enter Tryd.func74, Tryd.ntmps74
  go_wp2
  go_loop [0] (fun t => ∃ m : Int, 0 ≤ m ∧ m < 4611686018427387904 ∧ Pl.fold m = Pl.fold n ∧ t = .int .i64 m) (fun t => (intOf t).toNat)
  case atStart => exact ⟨n, h0, h1, rfl, rfl⟩
  case round =>
    obtain ⟨m, hm0, hm1, hf, rfl⟩ := hrel
    have HF := Lib.hid hf
    clear hf
    by_cases hlt : 65535 < m
    · have ha := and65535 hm0 hm1
      go_wp2
      go_round
      case rel => exact ⟨m % 65536 + m / 65536, by omega, by omega, by rw [Pl.fold_step hlt, HF.out], rfl⟩
      case measure => simp [intOf]; omega
    · go_wp2
      go_ret
      exact ⟨ret_int (by rw [← HF.out, Pl.fold_small hm0 (by omega)]), rfl⟩

set_option maxHeartbeats 400000 in
theorem raw_any (a : Option Addr) (n c : Nat) (xs : List Int) (w : World) (hx : Ints .u8 w a n xs) (hb : Pl.IsB xs) (hn : n ≤ 65536) :
    Calls Tryd.prog 72 #[.slice a n c] w fun e w' => e = .returned (.int .i64 (Pl.fold (Pl.raw 0 xs))) ∧ w = w' := by
  have hl := hx.len
  have hbd := Pl.raw_bd hb 0
  by_cases hz : n = 0
  · subst hz
    obtain rfl : xs = [] := List.length_eq_zero_iff.1 hl
    clear hx
    go_enter Tryd.func72, Tryd.ntmps72
    go_wp2
    go_loop [3, 8] (fun t i => t = .int .i64 0 ∧ i = .int .i64 0) (fun _ i => 0 - (intOf i).toNat)
    case atStart => exact ⟨rfl, rfl⟩
    case round =>
      obtain ⟨rfl, rfl⟩ := hrel
      go_wp2_with (go_at_call 74; refine (fold_any _ _ (by omega) (by omega)).mono ?_; rintro e w' ⟨rfl, rfl⟩)
      go_ret
      exact ⟨rfl, rfl⟩
  · obtain ⟨b, off, rfl, hbl, hc⟩ := hx.at (by omega)
    have HC := Lib.hid hc
    have HL := Lib.hid hl
    clear hx hc hl
    go_enter Tryd.func72, Tryd.ntmps72
    go_wp2
    go_loop [3, 8] (fun t i => ∃ k : Nat, k ≤ n ∧ i = .int .i64 k ∧ t = .int .i64 (Pl.raw 0 (xs.take k))) (fun _ i => n - (intOf i).toNat)
    case atStart => exact ⟨0, Nat.zero_le _, rfl, rfl⟩
    case round =>
      obtain ⟨k, hk, rfl, rfl⟩ := hrel
      have hB := Pl.raw_bd (hb.take k) 0
      have hkl : (xs.take k).length ≤ k := List.length_take_le _ _
      by_cases hlt : k < n
      · have hsn := Pl.raw_snoc (xs.take k) (xs.getD k 0)
        rw [← take_snoc xs k (by rw [HL.out]; exact hlt), List.length_take_of_le (by rw [HL.out]; omega)] at hsn
        have hbx := hb.getD k
        have hcell := HC.out k hlt
        generalize xs.getD k 0 = x at hsn hbx hcell
        generalize Pl.raw 0 (xs.take k) = s at *
        have HS := Lib.hid hsn
        clear hsn
        by_cases hp : k % 2 = 0
        · have hp' : (k : Int) % 2 = 0 := by omega
          go_wp2
          go_round
          case rel => exact ⟨k + 1, by omega, by go_num, by rw [HS.out, if_pos hp]; go_num⟩
          case measure => simp [intOf]; omega
        · have hp' : (k : Int) % 2 = 1 := by omega
          go_wp2
          go_round
          case rel => exact ⟨k + 1, by omega, by go_num, by rw [HS.out, if_neg hp]⟩
          case measure => simp [intOf]; omega
      · have hk' : k = n := by omega
        have hrest : xs.take k = xs := List.take_of_length_le (by rw [HL.out]; omega)
        have HR := Lib.hid hrest
        clear hk' hrest
        go_wp2_with (go_at_call 74; refine (fold_any _ _ (by omega) (by omega)).mono ?_; rintro e w' ⟨rfl, rfl⟩)
        go_ret
        exact ⟨ret_int (by rw [HR.out]), rfl⟩

/-- Sum of bytes that are not too many. -/
theorem of_ok (a : Option Addr) (n c : Nat) (xs : List Int) (w : World) (hx : Ints .u8 w a n xs) (hb : Pl.IsB xs) (hn : n ≤ 2000) :
    Calls Tryd.prog 35 #[.slice a n c] w fun e w' => e = .returned (.tuple #[.int .i64 (Pl.fold (Pl.raw 0 xs)), .nilIface]) ∧ w = w' := by
  have hd : decide ((2000 : Int) < (n : Int)) = false := by simp; omega
  go_enter Tryd.func35, Tryd.ntmps35
  go_wp2_with (go_at_call 72; refine (raw_any _ _ _ xs _ hx hb (by omega)).mono ?_; rintro e w' ⟨rfl, rfl⟩)
  go_ret2
  exact ⟨rfl, rfl⟩
theorem of_full (a : Option Addr) (n c : Nat) (w : World) (hn : 2000 < n) :
    Calls Tryd.prog 35 #[.slice a n c] w fun e w' => e = .returned (.tuple #[.int .i64 0, .iface 24 (.int .i64 3)]) ∧ w = w' := by
  go_enter Tryd.func35, Tryd.ntmps35
  go_wp2
  go_ret2
  exact ⟨rfl, rfl⟩

/-- Are all of them numbers of 16 bits? -/
def words : List Int → Bool
  | [] => true
  | x :: r => decide (0 ≤ x ∧ x ≤ 65535) && words r
theorem words_snoc (l : List Int) (x : Int) : words (l ++ [x]) = (words l && decide (0 ≤ x ∧ x ≤ 65535)) := by
  induction l with
  | nil => simp [words]
  | cons y r ih => simp [words, ih, Bool.and_assoc]
theorem words_append (l m : List Int) : words (l ++ m) = (words l && words m) := by
  induction l with
  | nil => simp [words]
  | cons y r ih => simp [words, ih, Bool.and_assoc]
theorem words_bad (l : List Int) (k : Nat) (hk : k < l.length) (h : ¬ (0 ≤ l.getD k 0 ∧ l.getD k 0 ≤ 65535)) : words l = false := by
  have e := List.take_append_drop (k + 1) l
  rw [take_snoc l k hk] at e
  rw [← e, words_append, words_snoc, decide_eq_false h]
  simp

set_option maxHeartbeats 400000 in
theorem number_any (a : Option Addr) (n c : Nat) (xs : List Int) (w : World) (hx : Ints .i64 w a n xs) (hn : n ≤ 65536) :
    Calls Tryd.prog 73 #[.slice a n c] w fun e w' => e = .returned (.bool (words xs)) ∧ w = w' := by
  have hl := hx.len
  by_cases hz : n = 0
  · subst hz
    obtain rfl : xs = [] := List.length_eq_zero_iff.1 hl
    clear hx
    go_enter Tryd.func73, Tryd.ntmps73
    go_wp2
    go_loop [7] (fun i => i = .int .i64 0) (fun i => 0 - (intOf i).toNat)
    case atStart => exact rfl
    case round =>
      obtain rfl := hrel
      go_wp2
      go_ret
      exact ⟨rfl, rfl⟩
  · obtain ⟨b, off, rfl, hbl, hc⟩ := hx.at (by omega)
    have HC := Lib.hid hc
    have HL := Lib.hid hl
    clear hx hc hl
    go_enter Tryd.func73, Tryd.ntmps73
    go_wp2
    go_loop [7] (fun i => ∃ k : Nat, k ≤ n ∧ i = .int .i64 k ∧ words (xs.take k) = true) (fun i => n - (intOf i).toNat)
    case atStart => exact ⟨0, Nat.zero_le _, rfl, rfl⟩
    case round =>
      obtain ⟨k, hk, rfl, hw⟩ := hrel
      have HW := Lib.hid hw
      clear hw
      by_cases hlt : k < n
      · have hsn := words_snoc (xs.take k) (xs.getD k 0)
        have hbad := words_bad xs k (by rw [HL.out]; exact hlt)
        rw [← take_snoc xs k (by rw [HL.out]; exact hlt), HW.out] at hsn
        have hcell := HC.out k hlt
        generalize xs.getD k 0 = x at hsn hcell hbad
        have HS := Lib.hid hsn
        have HB := Lib.hid hbad
        clear hsn hbad
        by_cases h1 : x < 0
        · go_wp2
          go_ret
          exact ⟨ret_bool (HB.out (by omega)).symm, rfl⟩
        · by_cases h2 : 65535 < x
          · go_wp2
            go_ret
            exact ⟨ret_bool (HB.out (by omega)).symm, rfl⟩
          · go_wp2
            go_round
            case rel => exact ⟨k + 1, by omega, by go_num, by rw [HS.out]; simp; omega⟩
            case measure => simp [intOf]; omega
      · have hk' : k = n := by omega
        have hrest : xs.take k = xs := List.take_of_length_le (by rw [HL.out]; omega)
        rw [hrest] at HW
        clear hk' hrest
        go_wp2
        go_ret
        exact ⟨ret_bool HW.out.symm, rfl⟩

/-- An error of the program's, by its number. -/
def errv (n : Int) : Value := .iface 24 (.int .i64 n)

theorem ints_new (w : World) (cs : Array Value) (t : TypeId) (m : Nat × Nat) (k : IntKind) (xs : List Int) (h : cs.toList = xs.map (Value.int k)) : Ints k (w.alloc (.cells cs t m)) (some ⟨w.heap.size, 0, none⟩) xs.length xs := by
  refine ⟨rfl, .inr ⟨_, _, rfl, fun i hi => ?_⟩⟩
  rw [World.cell?_alloc_mark]
  simp only [Nat.zero_add]
  rw [← Array.getElem?_toList, h, List.getElem?_map, List.getElem?_eq_getElem hi]
  simp [List.getD, hi]

theorem add_ok (a b : Int) (w : World) (ha : 0 ≤ a ∧ a ≤ 65535) (hb : 0 ≤ b ∧ b ≤ 65535) :
    Calls Tryd.prog 36 #[.int .i64 a, .int .i64 b] w fun e w' => e = .returned (.tuple #[.int .i64 (Pl.fold (a + b)), .nilIface]) ∧ Below w.heap.size w w' := by
  obtain ⟨a0, a1⟩ := ha
  obtain ⟨b0, b1⟩ := hb
  have hw : words [a, b] = true := by simp [words]; omega
  have HW := Lib.hid hw
  clear hw
  go_enter Tryd.func36, Tryd.ntmps36
  go_wp2_with fail
  refine (number_any _ _ _ [a, b] _ (ints_new w _ _ _ _ _ rfl) (by simp)).mono ?_
  rintro e w' ⟨rfl, rfl⟩
  rw [HW.out]
  go_wp2_with (go_at_call 74; refine (fold_any _ _ (by omega) (by omega)).mono ?_; rintro e w' ⟨rfl, rfl⟩)
  go_ret2
  exact ⟨rfl, by go_grown⟩
theorem add_bad (a b : Int) (w : World) (h : words [a, b] = false) :
    Calls Tryd.prog 36 #[.int .i64 a, .int .i64 b] w fun e w' => e = .returned (.tuple #[.int .i64 0, errv 1]) ∧ Below w.heap.size w w' := by
  have HW := Lib.hid h
  clear h
  go_enter Tryd.func36, Tryd.ntmps36
  go_wp2_with fail
  refine (number_any _ _ _ [a, b] _ (ints_new w _ _ _ _ _ rfl) (by simp)).mono ?_
  rintro e w' ⟨rfl, rfl⟩
  rw [HW.out]
  go_wp2
  go_ret2
  exact ⟨rfl, by go_grown⟩
/-- What Swap gives of three numbers. -/
def swapv (a b c : Int) : Int := 65535 - Pl.fold (Pl.fold (65535 - a + 65535 - b) + c)
end Go.Proofs.YtkjchddidpjjmaaDoor
/- Slices of bytes that the call itself has made: append, and what is read of them. Conditions: as each lemma states them. -/
namespace Go.Proofs.YtkjchddidpjjmaaDoor
open Go.RowKit

/-- The bytes as cells. -/
def bcells (xs : List Int) : List Value := xs.map (Value.int .u8)
theorem bcells_append (xs ys : List Int) : bcells xs ++ bcells ys = bcells (xs ++ ys) := by simp [bcells]
theorem bcells_length (xs : List Int) : (bcells xs).length = xs.length := by simp [bcells]

/-- v is a slice of the bytes xs, nil or at the head of a block from B on that the call has made. -/
def Own (w : World) (B : Nat) (v : Value) (xs : List Int) : Prop := w.ownsRow B 5 1 v xs.length (bcells xs)

theorem Own.nil (w : World) (B : Nat) : Own w B (.slice none 0 0) [] := World.ownsRow_nil w B _ 1

theorem Own.lt {w : World} {B : Nat} {v : Value} {xs : List Int} (h : Own w B v xs) : ∀ k, v.ownBlock = some k → B ≤ k ∧ k < w.heap.size := World.ownsRow.lt h

/-- What lies below C stays owned while the world turns from C on. -/
theorem Own.below {w w' : World} {B C : Nat} {v : Value} {xs : List Int} (h : Own w B v xs) (hb : Below C w w') (hC : ∀ k, v.ownBlock = some k → k < C) : Own w' B v xs := by
  refine ⟨h.1, ?_⟩
  rcases h.2 with hn | ⟨g, cap, cur, rfl, hg, hh, rest⟩
  · exact .inl hn
  · exact .inr ⟨g, cap, cur, rfl, hg, by rw [hb.block g (hC g rfl)]; exact hh, rest⟩
theorem Own.drewN {w : World} {B : Nat} {v : Value} {xs : List Int} (h : Own w B v xs) (n : Nat) : Own (w.drewN n) B v xs := by
  obtain ⟨h1, h2⟩ := h
  refine ⟨h1, ?_⟩
  rcases h2 with hn | ⟨g, cap, cur, rfl, hg, hh, rest⟩
  · exact .inl hn
  · exact .inr ⟨g, cap, cur, rfl, hg, hh, rest⟩
theorem Own.drew {w : World} {B : Nat} {v : Value} {xs : List Int} (h : Own w B v xs) : Own w.drew B v xs := by
  obtain ⟨h1, h2⟩ := h
  refine ⟨h1, ?_⟩
  rcases h2 with hn | ⟨g, cap, cur, rfl, hg, hh, rest⟩
  · exact .inl hn
  · exact .inr ⟨g, cap, cur, rfl, hg, hh, rest⟩
theorem Own.setOther {w : World} {B : Nat} {v : Value} {xs : List Int} (h : Own w B v xs) {p : Addr} (hp : p.block < B) (u : Value) : Own (w.setCell p u) B v xs := ownsRow_setCell_below h hp u
theorem Own.mono {w : World} {B B' : Nat} {v : Value} {xs : List Int} (h : Own w B v xs) (hB : B' ≤ B) : Own w B' v xs := by
  refine ⟨h.1, ?_⟩
  rcases h.2 with hn | ⟨g, cap, cur, rfl, hg, hh, rest⟩
  · exact .inl hn
  · exact .inr ⟨g, cap, cur, rfl, by omega, hh, rest⟩

/-- The shape of what is owned, and its bytes. -/
theorem Own.open {w : World} {B : Nat} {v : Value} {xs : List Int} (h : Own w B v xs) :
    ∃ a cap, v = .slice a xs.length cap ∧ xs.length ≤ cap ∧ Ints .u8 w a xs.length xs ∧ (∀ k, (Value.slice a xs.length cap).ownBlock = some k → B ≤ k ∧ k < w.heap.size) ∧ (∀ p, a = some p → p.off = 0 ∧ p.spot = none ∧ ∀ i, w.frozen? ⟨p.block, i, none⟩ = false) := by
  have hlt := h.lt
  have h0 := h
  obtain ⟨h1, h2⟩ := h
  rcases h2 with ⟨rfl, hn⟩ | ⟨g, cap, cur, rfl, hg, hh, hnc, hcap, hsz, htake⟩
  · have : xs = [] := List.length_eq_zero_iff.1 hn
    subst this
    exact ⟨none, 0, rfl, Nat.le_refl _, Ints.nil, hlt, fun p hp => by cases hp⟩
  · refine ⟨some ⟨g, 0, none⟩, cap, rfl, hnc, ⟨rfl, .inr ⟨g, 0, rfl, fun i hi => ?_⟩⟩, hlt, fun p hp => ?_⟩
    · have hc := World.ownsRow.cellAt h0 i (by omega)
      rw [Nat.zero_add, hc, bcells, List.getElem?_map, List.getElem?_eq_getElem hi]
      simp [List.getD, hi]
    · cases hp
      refine ⟨rfl, rfl, fun i => ?_⟩
      exact World.ownsRow.frozenAt h0 i

theorem Tryd.infoU8 : (Tryd.prog.info? 5).map (fun i => (i.zero, i.size, i.bytes)) = some (some (.int .u8 0), 1, 1) := by kernel_rfl

theorem bcells_one (xs : List Int) : ∀ u ∈ bcells xs, u.oneCell' = true := fun u hu => by
  obtain ⟨x, _, rfl⟩ := List.mem_map.1 hu
  rfl

theorem Own.lt' {w : World} {B : Nat} {v : Value} {xs : List Int} (h : Own w B v xs) : ∀ k, v.ownBlock = some k → k < w.heap.size := fun k hk => (h.lt k hk).2
/-- What is owned, read where it is handed on. -/
theorem Own.read {w : World} {B : Nat} {v : Value} {xs : List Int} (h : Own w B v xs) : ∃ a n cap, v = .slice a n cap ∧ n ≤ cap ∧ Ints .u8 w a n xs := by
  obtain ⟨a, cap, hv, hc, hi, _⟩ := h.open
  exact ⟨a, _, cap, hv, hc, hi⟩
/-- What is owned and not empty, for who writes into it. -/
theorem Own.shape {w : World} {B : Nat} {v : Value} {xs : List Int} (h : Own w B v xs) (hn : 0 < xs.length) :
    ∃ g n cap, v = .slice (some ⟨g, 0, none⟩) n cap ∧ xs.length = n ∧ n ≤ cap ∧ B ≤ g ∧ g < w.heap.size ∧ (∀ i, i < n → w.cell? ⟨g, i, none⟩ = some (.int .u8 (xs.getD i 0))) ∧ ∀ i, w.frozen? ⟨g, i, none⟩ = false := by
  have h0 := h
  obtain ⟨h1, h2⟩ := h
  rcases h2 with ⟨rfl, hz⟩ | ⟨g, cap, cur, rfl, hg, hh, hnc, hcap, hsz, htake⟩
  · omega
  · refine ⟨g, _, cap, rfl, rfl, hnc, hg, (Array.getElem?_eq_some_iff.1 hh).1, fun i hi => ?_, fun i => World.ownsRow.frozenAt h0 i⟩
    rw [World.ownsRow.cellAt h0 i (by omega), bcells, List.getElem?_map, List.getElem?_eq_getElem hi]
    simp [List.getD, hi]
/-- A byte of what is owned is written. -/
theorem Own.store {w : World} {B g n cap : Nat} {xs : List Int} (h : Own w B (.slice (some ⟨g, 0, none⟩) n cap) xs) (j : Nat) (y : Int) :
    Own (w.setCell ⟨g, j, none⟩ (.int .u8 y)) B (.slice (some ⟨g, 0, none⟩) n cap) (xs.set j y) := by
  have hn : n = xs.length := by
    rcases h.2 with ⟨h0, _⟩ | ⟨g', cap', cur, hv, _⟩
    · cases h0
    · cases hv; rfl
  subst hn
  have hs := (World.ownsRow.stored h j (.int .u8 y)).1
  unfold Own
  rw [List.length_set, bcells, List.map_set]
  exact hs
theorem Own.len {w : World} {B n cap : Nat} {a : Option Addr} {xs : List Int} (h : Own w B (.slice a n cap) xs) : xs.length = n := by
  rcases h.2 with ⟨h0, h1⟩ | ⟨g', cap', cur, hv, _⟩
  · cases h0; exact h1
  · cases hv; rfl

/-- append of a nil slice, whatever its capacity is said to be. -/
theorem wp_append_own_none0 {w : World} {o : Oper} {a : Act} {K : Act → World → Prop} {Q : Exit → Act → World → Prop} (s x : Operand) (t : TypeId)
    (ho : o.op = .call { callee := .builtin .append, args := #[s, x], argTypes := #[t, t] })
    (base : Nat) (e : TypeId) (i : TypeInfo) (size : Nat) (ht : Tryd.prog.underlying t = some (.slice e)) (hi : Tryd.prog.info? e = some i)
    (v : Value) (n : Nat) (xs : List Value) (c : Nat) (hs : a.eval s = v) (hown : w.ownsRow base e size v n xs) (hx : a.eval x = .slice none 0 c)
    (h : K (a.put o.dst v) w) : o.wp Tryd.prog a w K Q := by
  have hrun : (Builtin.append_ #[t, t] o.type #[v, .slice none 0 c]).run Tryd.prog w = .ok v w := by
    rcases hown.2 with ⟨rfl, rfl⟩ | ⟨g, cap, cur, rfl, _, _, hnc, _⟩
    · simp [Builtin.append_, run_underlying ht, sizeOf, typeInfo, hi, Builtin.lenOf, Builtin.firstCells]
    · simp [Builtin.append_, run_underlying ht, sizeOf, typeInfo, hi, Builtin.lenOf, Builtin.firstCells, hnc, storeCells]
  unfold Oper.wp
  simp [execOp, ho, resolve, invoke, builtin, hs, hx, hrun, Result.andThen]
  exact h

/-- append of bytes, whatever they lie in, to what the call owns: at the operation. -/
theorem wp_app {w : World} {o : Oper} {a : Act} {K : Act → World → Prop} {Q : Exit → Act → World → Prop} (s x : Operand)
    (ho : o.op = .call { callee := .builtin .append, args := #[s, x], argTypes := #[40, 40] })
    (B : Nat) (v : Value) (ys : List Int) (hs : a.eval s = v) (hown : Own w B v ys) (ao : Option Addr) (m c : Nat) (xs : List Int) (hx : a.eval x = .slice ao m c) (hr : Ints .u8 w ao m xs)
    (hmax : ys.length + m ≤ 1099511627776) (hbase : B ≤ w.heap.size)
    (h : ∀ v' w', Own w' B v' (ys ++ xs) → Below B w w' → K (a.put o.dst v') w') : o.wp Tryd.prog a w K Q := by
  obtain ⟨i0, hi, hz0, hz1, hz2⟩ := info_parts Tryd.infoU8
  have hl : (bcells xs).length = m * 1 := by rw [bcells_length, hr.len, Nat.mul_one]
  rcases hr.2 with h0 | ⟨b, off, rfl, hc⟩
  · subst h0
    obtain rfl : xs = [] := List.length_eq_zero_iff.1 hr.len
    cases ao with
    | none =>
      refine wp_append_own_none0 s x _ ho B _ i0 1 Tryd.underlying40 hi v _ (bcells ys) c hs hown hx (h v w ?_ (Below.refl B w))
      simpa using hown
    | some ad =>
      refine wp_append_own w s x _ ho B _ i0 _ 1 1 Tryd.underlying40 hi hz0 hz1 hz2 rfl (by decide) v _ (bcells ys) hs hown ad 0 c [] hx rfl (fun _ _ h => by simp at h) (fun _ h => by cases h) (by unfold maxLen; omega) (by omega) hbase ?_
      intro v' w' ho' hg _
      exact h v' w' (by unfold Own; simpa using ho') ((Below.refl B w).grown hg hbase fun k hk => (hown.lt k hk).1)
  · refine wp_append_own w s x _ ho B _ i0 _ 1 1 Tryd.underlying40 hi hz0 hz1 hz2 rfl (by decide) v _ (bcells ys) hs hown ⟨b, off, none⟩ m c (bcells xs) hx hl ?_ (bcells_one xs) (by unfold maxLen; omega) (by omega) hbase ?_
    · intro j u hj
      have hlt : j < m := by have := (List.getElem?_eq_some_iff.1 hj).1; rw [bcells_length, hr.len] at this; exact this
      have hlt' : j < xs.length := by rw [hr.len]; exact hlt
      rw [bcells, List.getElem?_map, List.getElem?_eq_getElem hlt'] at hj
      simp only [Option.map_some, Option.some.injEq] at hj
      rw [← hj]
      have := hc j hlt
      simp [List.getD, hlt'] at this
      rw [Addr.add_lit]
      exact this
    · intro v' w' ho' hg _
      refine h v' w' ?_ ((Below.refl B w).grown hg hbase fun k hk => (hown.lt k hk).1)
      unfold Own
      rw [List.length_append, hr.len, ← bcells_append]
      exact ho'

/-- In a plain region. -/
theorem app {w : World} {ops : Array Oper} {rest : List Oper} {o : Oper} {a : Act} {Q : Exit → Act → World → Prop} (hgd : o.guard = none) (s x : Operand)
    (ho : o.op = .call { callee := .builtin .append, args := #[s, x], argTypes := #[40, 40] })
    (B : Nat) (v : Value) (ys : List Int) (hs : a.eval s = v) (hown : Own w B v ys) (ao : Option Addr) (m c : Nat) (xs : List Int) (hx : a.eval x = .slice ao m c) (hr : Ints .u8 w ao m xs)
    (hmax : ys.length + m ≤ 1099511627776) (hbase : B ≤ w.heap.size)
    (h : ∀ v' w', Own w' B v' (ys ++ xs) → Below B w w' → wpList Tryd.prog ops Q rest (a.put o.dst v') w') : wpList Tryd.prog ops Q (o :: rest) a w :=
  wpList_plain hgd fun _ hK => wp_app s x ho B v ys hs hown ao m c xs hx hr hmax hbase fun v' w' h1 h2 => hK _ _ (h v' w' h1 h2)

/-- At a step of a region that draws its order. -/
theorem step_app {w : World} {ops : Array Oper} {o : Oper} {a : Act} {K : Act → World → Prop} {Q : Exit → Act → World → Prop} {E : Prop} (hgd : o.guard = none) (s x : Operand)
    (ho : o.op = .call { callee := .builtin .append, args := #[s, x], argTypes := #[40, 40] })
    (B : Nat) (v : Value) (ys : List Int) (hs : a.eval s = v) (hown : Own w B v ys) (ao : Option Addr) (m c : Nat) (xs : List Int) (hx : a.eval x = .slice ao m c) (hr : Ints .u8 w ao m xs)
    (hmax : ys.length + m ≤ 1099511627776) (hbase : B ≤ w.heap.size)
    (h : ∀ v' w', Own w' B v' (ys ++ xs) → Below B w w' → K (a.put o.dst v') w') :
    if Region.wanted o (yielded ops a.tmps) = true then Oper.wp Tryd.prog o a w K Q else E := by
  have hw : Region.wanted o (yielded ops a.tmps) = true := by simp [Region.wanted, hgd]
  rw [if_pos hw]
  exact wp_app s x ho B v ys hs hown ao m c xs hx hr hmax hbase h

/-- A literal slice of bytes that the call builds. -/
theorem Own.built (w : World) (B : Nat) (cs : Array Value) (xs : List Int) (n : Nat) (hc : cs.toList = bcells xs) (hn : xs.length = n) (hB : B ≤ w.heap.size) (hx : xs.length ≤ 1099511627776) :
    Own (w.alloc (.cells cs 5)) B (.slice (some ⟨w.heap.size, 0, none⟩) n n) xs := by
  subst hn
  have hs : cs.size = xs.length := by rw [← Array.length_toList, hc, bcells_length]
  have h := World.ownsRow_lit (base := B) (e := 5) (size := 1) w cs xs.length hB (by unfold maxLen; omega) (by omega)
  unfold Own
  rw [← hc]
  exact h

end Go.Proofs.YtkjchddidpjjmaaDoor
/- Words on memory for the walks of this seat: what lies as it lay, blocks that are known whole, a world named by what is known of it. Conditions: as each lemma states them. -/
namespace Go.Proofs.YtkjchddidpjjmaaDoor
open Go.RowKit

/-- All that was there is as it was. -/
def Ext (w w' : World) : Prop := Below w.heap.size w w'
theorem Ext.refl (w : World) : Ext w w := Below.refl _ _
theorem Ext.trans {a b c : World} (h : Ext a b) (k : Ext b c) : Ext a c := Below.trans h (Below.mono k h.size)
theorem Ext.low {B : Nat} {a b c : World} (h : Below B a b) (hB : B ≤ b.heap.size) (k : Ext b c) : Below B a c := h.trans (Below.mono k hB)
theorem Ext.size {a b : World} (h : Ext a b) : a.heap.size ≤ b.heap.size := Below.size h

theorem Ext.alloc {a b : World} (h : Ext a b) (o : Obj) : Ext a (b.alloc o) := Below.alloc h h.size o
theorem Ext.drew {a b : World} (h : Ext a b) : Ext a b.drew := Below.drew h
theorem Ext.drewN {a b : World} (h : Ext a b) (n : Nat) : Ext a (b.drewN n) := ⟨h.os, h.tape, h.output, h.size, h.block⟩
theorem Ext.set {a b : World} (h : Ext a b) {p : Addr} (hp : a.heap.size ≤ p.block) (u : Value) : Ext a (b.setCell p u) := Below.setCell h hp u
/-- Block g is just these cells. -/
def Blk (w : World) (g : Nat) (t : TypeId) (cs : Array Value) : Prop := w.heap[g]? = some (.cells cs t)
section
variable {w w' : World} {g : Nat} {t : TypeId} {cs : Array Value}
theorem Blk.lt (h : Blk w g t cs) : g < w.heap.size := (Array.getElem?_eq_some_iff.1 h).1
theorem Blk.cells (h : Blk w g t cs) : ∀ i, w.cell? ⟨g, i, none⟩ = cs[i]? := fun i => cell_of_row w g i cs t (0, 0) h
theorem Blk.free (h : Blk w g t cs) : ∀ i, w.frozen? ⟨g, i, none⟩ = false := fun i => frozen_of_row w g i cs t h
theorem Blk.new (w : World) (t : TypeId) (cs : Array Value) : Blk (w.alloc (.cells cs t)) w.heap.size t cs := heap_alloc_new w _
theorem Blk.at {n : Nat} (w : World) (t : TypeId) (cs : Array Value) (h : w.heap.size = n) : Blk (w.alloc (.cells cs t)) n t cs := by subst h; exact Blk.new w t cs
theorem Blk.ints (h : Blk w g t cs) {k : IntKind} {off n : Nat} {xs : List Int} (hn : xs.length = n) (hc : ∀ i, i < n → cs[off + i]? = some (.int k (xs.getD i 0))) : Ints k w (some ⟨g, off, none⟩) n xs :=
  ⟨hn, .inr ⟨g, off, rfl, fun i hi => (h.cells (off + i)).trans (hc i hi)⟩⟩
theorem Blk.alloc (h : Blk w g t cs) (o : Obj) : Blk (w.alloc o) g t cs := (Below.heap_alloc w o g h.lt).trans h
theorem Blk.drew (h : Blk w g t cs) : Blk w.drew g t cs := h
theorem Blk.drewN (h : Blk w g t cs) (n : Nat) : Blk (w.drewN n) g t cs := h
theorem Blk.ext (h : Blk w g t cs) (k : Ext w w') : Blk w' g t cs := (Below.block k g h.lt).trans h
theorem Blk.below {B : Nat} (h : Blk w g t cs) (k : Below B w w') (hg : g < B) : Blk w' g t cs := (Below.block k g hg).trans h
theorem Blk.put (h : Blk w g t cs) (i : Nat) (u : Value) : Blk (w.setCell ⟨g, i, none⟩ u) g t (cs.setIfInBounds i u) := by
  unfold Blk at *
  simp [World.setCell, Array.getElem?_modify, h]
theorem Blk.far (h : Blk w g t cs) {p : Addr} (hp : g ≠ p.block) (u : Value) : Blk (w.setCell p u) g t cs := (Below.heap_setCell w p u g hp).trans h
end
theorem Ints.ext {k : IntKind} {w w' : World} {a : Option Addr} {n : Nat} {xs : List Int} (h : Ints k w a n xs) (hb : Ext w w') : Ints k w' a n xs := h.below hb
theorem Own.ext {w w' : World} {B : Nat} {v : Value} {xs : List Int} (h : Own w B v xs) (hb : Ext w w') : Own w' B v xs := h.below hb h.lt'

/-- At a load whose run is known. -/
theorem load_by {P : Program} {ops : Array Oper} {rest : List Oper} {o : Oper} {a : Act} {w : World} {Q : Exit → Act → World → Prop} (hw : Region.wanted o (yielded ops a.tmps) = true) (ty : TypeId) (x : Operand) (ho : o.op = .load ty x)
    (p : Addr) (hx : a.eval x = .pointer (some p)) (v : Value) (h : (Instr.loadAt ty (.pointer (some p))).run P w = .ok v w)
    (k : wpList P ops Q rest (a.put o.dst v) w) : wpList P ops Q (o :: rest) a w := by
  refine BigFrame.wpList_want hw fun K hK => ?_
  unfold Oper.wp execOp
  simp only [ho, hx, Sem.run_bind, h, Result.andThen_ok, Sem.run_pure]
  exact hK _ _ k

/-- A world is named by what is known of it. -/
theorem at_world {P : Program} {f : FuncId} {args : Array Value} {W : World} {Q : Ending → World → Prop} (X : World → Prop) (h : X W) (k : ∀ W', X W' → Calls P f args W' Q) : Calls P f args W Q := k W h
end Go.Proofs.YtkjchddidpjjmaaDoor
/- The contracts of package addr on addresses of eight numbers: Check, Raw, Of. Conditions: as each theorem states them. -/
namespace Go.Proofs.YtkjchddidpjjmaaDoor
open Go.RowKit

/-- An address. -/
structure Six where
  x0 : Int
  x1 : Int
  x2 : Int
  x3 : Int
  x4 : Int
  x5 : Int
  x6 : Int
  x7 : Int
def Six.cells (s : Six) : Array Value := #[.int .i64 s.x0, .int .i64 s.x1, .int .i64 s.x2, .int .i64 s.x3, .int .i64 s.x4, .int .i64 s.x5, .int .i64 s.x6, .int .i64 s.x7]
abbrev Six.v (s : Six) : Value := .agg s.cells
def Six.l (s : Six) : List Int := [s.x0, s.x1, s.x2, s.x3, s.x4, s.x5, s.x6, s.x7]
def Six.Ok (s : Six) : Prop := words s.l = true
theorem Six.Ok.each {s : Six} (h : s.Ok) : (0 ≤ s.x0 ∧ s.x0 ≤ 65535) ∧ (0 ≤ s.x1 ∧ s.x1 ≤ 65535) ∧ (0 ≤ s.x2 ∧ s.x2 ≤ 65535) ∧ (0 ≤ s.x3 ∧ s.x3 ≤ 65535) ∧ (0 ≤ s.x4 ∧ s.x4 ≤ 65535) ∧ (0 ≤ s.x5 ∧ s.x5 ≤ 65535) ∧ (0 ≤ s.x6 ∧ s.x6 ≤ 65535) ∧ (0 ≤ s.x7 ∧ s.x7 ≤ 65535) := by
  unfold Six.Ok Six.l at h
  simpa [words] using h
theorem Six.Ok.at {s : Six} (h : s.Ok) (k : Nat) : 0 ≤ s.l.getD k 0 ∧ s.l.getD k 0 ≤ 65535 := by
  obtain ⟨h0, h1, h2, h3, h4, h5, h6, h7⟩ := h.each
  match k with
  | 0 => exact h0
  | 1 => exact h1
  | 2 => exact h2
  | 3 => exact h3
  | 4 => exact h4
  | 5 => exact h5
  | 6 => exact h6
  | 7 => exact h7
  | k + 8 => simp [Six.l]
theorem words_of {l : List Int} (h : ∀ x ∈ l, 0 ≤ x ∧ x ≤ 65535) : words l = true := by
  induction l with
  | nil => rfl
  | cons y r ih => simp [words, h y (List.mem_cons_self ..), ih fun x hx => h x (List.mem_cons_of_mem _ hx)]

theorem run_index_six (s : Six) (k : Nat) (hk : k < 8) (w : World) :
    (Instr.index 23 (.agg s.cells) (.int .i64 (k : Int))).run Tryd.prog w = .ok (.int .i64 (s.l.getD k 0)) w := by
  have h : k = 0 ∨ k = 1 ∨ k = 2 ∨ k = 3 ∨ k = 4 ∨ k = 5 ∨ k = 6 ∨ k = 7 := by omega
  rcases h with rfl | rfl | rfl | rfl | rfl | rfl | rfl | rfl <;> (show _ = _; kernel_rfl)
theorem Six.cells_at (s : Six) (j : Nat) (hj : j < 8) : s.cells[j]? = some (.int .i64 (s.l.getD j 0)) := by
  have h : j = 0 ∨ j = 1 ∨ j = 2 ∨ j = 3 ∨ j = 4 ∨ j = 5 ∨ j = 6 ∨ j = 7 := by omega
  rcases h with rfl | rfl | rfl | rfl | rfl | rfl | rfl | rfl <;> rfl
theorem Tryd.size6 : (Tryd.prog.info? 23).map (·.size) = some 8 := by kernel_rfl
/-- An address in a block, read whole. -/
theorem Blk.six {w : World} {g : Nat} {t : TypeId} {cs : Array Value} (h : Blk w g t cs) (off : Nat) (s : Six) (hs : ∀ j, j < 8 → cs[off + j]? = s.cells[j]?) :
    (Instr.loadAt 23 (.pointer (some ⟨g, off, none⟩))).run Tryd.prog w = .ok (.agg s.cells) w := by
  have := run_loadAt_mid (P := Tryd.prog) w g off 23 s.cells.toList _ (fun j v hv => by
    rw [Array.getElem?_toList] at hv
    have hj : j < 8 := (Array.getElem?_eq_some_iff.1 hv).1
    rw [h.cells, hs j hj]; exact hv) Tryd.underlying23 rfl Tryd.size6
  rw [Array.toArray_toList] at this
  exact this
theorem Blk.six0 {w : World} {g : Nat} {t : TypeId} {s : Six} (h : Blk w g t s.cells) : (Instr.loadAt 23 (.pointer (some ⟨g, 0, none⟩))).run Tryd.prog w = .ok (.agg s.cells) w :=
  h.six 0 s fun j _ => by rw [Nat.zero_add]

/-- What Check gives. -/
def wordsErr (l : List Int) : Value := if words l = true then .nilIface else errv 1
theorem wordsErr_yes {l : List Int} (h : words l = true) : wordsErr l = .nilIface := by unfold wordsErr; rw [if_pos h]
theorem wordsErr_no {l : List Int} (h : words l = false) : wordsErr l = errv 1 := by unfold wordsErr; rw [if_neg (by rw [h]; simp)]

set_option maxHeartbeats 800000 in
theorem check6_any (s : Six) (w : World) :
    Calls Tryd.prog 48 #[s.v] w fun e w' => e = .returned (wordsErr s.l) ∧ Ext w w' := by
  have ld := (Blk.new w 23 s.cells).six0
  unfold Six.v
  go_enter Tryd.func48, Tryd.ntmps48
  go_wp2_with ((apply load_by rfl _ _ rfl _ rfl); (focus (with_reducible assumption)))
  clear ld
  go_loop [6] (fun i => ∃ k : Nat, k ≤ 8 ∧ i = .int .i64 k ∧ words (s.l.take k) = true) (fun i => 8 - (intOf i).toNat)
  case atStart => exact ⟨0, Nat.zero_le _, rfl, rfl⟩
  case round =>
    obtain ⟨k, hk, rfl, hw⟩ := hrel
    have HW := Lib.hid hw
    clear hw
    have hE : Ext w (w.alloc (.cells s.cells 23)) := (Ext.refl w).alloc _
    have HE := Lib.hid hE
    clear hE
    by_cases hlt : k < 8
    · have hsn := words_snoc (s.l.take k) (s.l.getD k 0)
      have hbad := words_bad s.l k hlt
      rw [← take_snoc s.l k hlt, HW.out] at hsn
      have hi := fun W => run_index_six s k hlt W
      generalize s.l.getD k 0 = x at hsn hbad hi
      have HS := Lib.hid hsn
      have HB := Lib.hid hbad
      clear hsn hbad
      by_cases h1 : x < 0
      · go_wp2
        go_ret
        exact ⟨by rw [wordsErr_no (HB.out (by omega))]; rfl, HE.out⟩
      · by_cases h2 : 65535 < x
        · go_wp2
          go_ret
          exact ⟨by rw [wordsErr_no (HB.out (by omega))]; rfl, HE.out⟩
        · go_wp2
          go_round
          case rel => exact ⟨k + 1, by omega, by go_num, by rw [HS.out]; simp; omega⟩
          case measure => simp [intOf]; omega
    · have hrest : s.l.take k = s.l := List.take_of_length_le (by show 8 ≤ k; omega)
      rw [hrest] at HW
      clear hrest
      go_wp2
      go_ret
      exact ⟨by rw [wordsErr_yes HW.out]; rfl, HE.out⟩

namespace Pl
/-- The bytes of numbers of 16 bits. -/
def two (l : List Int) : List Int := l.flatMap fun n => [n / 256, n % 256]
theorem two_snoc (l : List Int) (x : Int) : two (l ++ [x]) = two l ++ [x / 256, x % 256] := by simp [two]
theorem two_isB {l : List Int} (h : ∀ x ∈ l, 0 ≤ x ∧ x ≤ 65535) : IsB (two l) := fun y hy => by
  obtain ⟨x, hx, hy⟩ := List.mem_flatMap.1 hy
  have := h x hx
  simp only [List.mem_cons, List.not_mem_nil, or_false] at hy
  rcases hy with rfl | rfl <;> omega
theorem two_length (l : List Int) : (two l).length = 2 * l.length := by
  induction l with
  | nil => rfl
  | cons x r ih => unfold two at *; rw [List.flatMap_cons, List.length_append, ih]; simp; omega
end Pl

set_option maxHeartbeats 800000 in
theorem raw6_any (s : Six) (w : World) (h : s.Ok) :
    Calls Tryd.prog 50 #[s.v] w fun e w' => ∃ v, e = .returned v ∧ Own w' w.heap.size v (Pl.two s.l) ∧ Ext w w' := by
  have HO := Lib.hid h
  clear h
  have ld := (Blk.new w 23 s.cells).six0
  unfold Six.v
  go_enter Tryd.func50, Tryd.ntmps50
  go_wp2_with ((apply load_by rfl _ _ rfl _ rfl); (focus (with_reducible assumption)))
  clear ld
  go_loopw [3, 7] (fun v i wr => ∃ k : Nat, k ≤ 8 ∧ i = .int .i64 k ∧ Own wr w.heap.size v (Pl.two (s.l.take k)) ∧ Ext w wr) (fun _ i _ => 8 - (intOf i).toNat)
  case atStart => exact ⟨0, Nat.zero_le _, rfl, Own.nil _ _, by unfold Ext; go_grown⟩
  case round =>
    obtain ⟨k, hk, rfl, ho, hE⟩ := hrel
    have HE := Lib.hid hE
    clear hE
    by_cases hlt : k < 8
    · have hi := fun W => run_index_six s k hlt W
      obtain ⟨b0, b1⟩ := HO.out.at k
      have hsn := Pl.two_snoc (s.l.take k) (s.l.getD k 0)
      rw [← take_snoc s.l k hlt] at hsn
      have hlen := Pl.two_length (s.l.take k)
      have hle : (s.l.take k).length ≤ k := List.length_take_le _ _
      generalize s.l.getD k 0 = x at hsn hi b0 b1
      have HS := Lib.hid hsn
      have HL := Lib.hid hlen
      clear hsn hlen
      have e2 : IntKind.u8.wrap x = x % 256 := by rw [IntKind.wrap_u8]
      go_wp2_with (at_builtin; refine Halt.out ?_)
      refine Halt.mk ?_
      refine app rfl _ _ rfl w.heap.size _ _ rfl (ho.ext (Below.alloc (Below.refl _ _) (Nat.le_refl _) _)) _ _ _ [x / 256, x % 256] rfl (ints_new wr _ _ _ _ _ rfl) (by rw [HL.out]; simp; omega) (by have := HE.out.size; simp; omega) ?_
      intro v' W' o' b'
      rw [← HS.out] at o'
      have hE' : Ext w W' := (Below.alloc HE.out HE.out.size _).trans b'
      have HE' := Lib.hid hE'
      clear hE' b'
      go_wp2
      go_roundw
      case rel => exact ⟨k + 1, by omega, by go_num, o', HE'.out⟩
      case measure => simp [intOf]; omega
    · have hrest : s.l.take k = s.l := List.take_of_length_le (by show 8 ≤ k; omega)
      rw [hrest] at ho
      clear hrest
      go_wp2
      go_ret
      exact ⟨_, rfl, ho, HE.out⟩

end Go.Proofs.YtkjchddidpjjmaaDoor
/- The contract of bind.Check: is a flow one? Conditions: as each theorem states them. -/
namespace Go.Proofs.YtkjchddidpjjmaaDoor
open Go.RowKit

/-- Who talks to whom. -/
structure Flow where
  kind : Int
  client : Six
  port : Int
  dst : Six
  door : Int
def Flow.cells (f : Flow) : Array Value := #[.int .i64 f.kind, .int .i64 f.client.x0, .int .i64 f.client.x1, .int .i64 f.client.x2, .int .i64 f.client.x3, .int .i64 f.client.x4, .int .i64 f.client.x5, .int .i64 f.client.x6, .int .i64 f.client.x7, .int .i64 f.port, .int .i64 f.dst.x0, .int .i64 f.dst.x1, .int .i64 f.dst.x2, .int .i64 f.dst.x3, .int .i64 f.dst.x4, .int .i64 f.dst.x5, .int .i64 f.dst.x6, .int .i64 f.dst.x7, .int .i64 f.door]
abbrev Flow.v (f : Flow) : Value := .agg f.cells
def Flow.Ok (f : Flow) : Prop := (f.kind = 6 ∨ f.kind = 17) ∧ f.client.Ok ∧ f.dst.Ok ∧ (0 ≤ f.port ∧ f.port ≤ 65535) ∧ (0 ≤ f.door ∧ f.door ≤ 65535)

section
variable {w : World} {g : Nat} {t : TypeId} {f : Flow}
theorem Blk.fclient (h : Blk w g t f.cells) : (Instr.loadAt 23 (.pointer (some ⟨g, 1, none⟩))).run Tryd.prog w = .ok (.agg f.client.cells) w :=
  h.six 1 f.client fun j hj => by
    have h : j = 0 ∨ j = 1 ∨ j = 2 ∨ j = 3 ∨ j = 4 ∨ j = 5 ∨ j = 6 ∨ j = 7 := by omega
    rcases h with rfl | rfl | rfl | rfl | rfl | rfl | rfl | rfl <;> rfl
theorem Blk.fdst (h : Blk w g t f.cells) : (Instr.loadAt 23 (.pointer (some ⟨g, 10, none⟩))).run Tryd.prog w = .ok (.agg f.dst.cells) w :=
  h.six 10 f.dst fun j hj => by
    have h : j = 0 ∨ j = 1 ∨ j = 2 ∨ j = 3 ∨ j = 4 ∨ j = 5 ∨ j = 6 ∨ j = 7 := by omega
    rcases h with rfl | rfl | rfl | rfl | rfl | rfl | rfl | rfl <;> rfl
theorem Blk.fnums (h : Blk w g t f.cells) : w.cell? ⟨g, 0, none⟩ = some (.int .i64 f.kind) ∧ w.cell? ⟨g, 9, none⟩ = some (.int .i64 f.port) ∧ w.cell? ⟨g, 18, none⟩ = some (.int .i64 f.door) := ⟨h.cells 0, h.cells 9, h.cells 18⟩
theorem Blk.ints_client (h : Blk w g t f.cells) : Ints .i64 w (some ⟨g, 1, none⟩) 8 f.client.l :=
  h.ints rfl fun i hi => by
    have h : i = 0 ∨ i = 1 ∨ i = 2 ∨ i = 3 ∨ i = 4 ∨ i = 5 ∨ i = 6 ∨ i = 7 := by omega
    rcases h with rfl | rfl | rfl | rfl | rfl | rfl | rfl | rfl <;> rfl
theorem Blk.ints_dst (h : Blk w g t f.cells) : Ints .i64 w (some ⟨g, 10, none⟩) 8 f.dst.l :=
  h.ints rfl fun i hi => by
    have h : i = 0 ∨ i = 1 ∨ i = 2 ∨ i = 3 ∨ i = 4 ∨ i = 5 ∨ i = 6 ∨ i = 7 := by omega
    rcases h with rfl | rfl | rfl | rfl | rfl | rfl | rfl | rfl <;> rfl
end

theorem check6_ok (s : Six) (w : World) (h : s.Ok) : Calls Tryd.prog 48 #[s.v] w fun e w' => e = .returned .nilIface ∧ Ext w w' :=
  (check6_any s w).mono fun _ _ ⟨he, hx⟩ => ⟨by rw [he, wordsErr_yes h], hx⟩
theorem Six.bad {s : Six} (h : ¬ s.Ok) : words s.l = false := by
  unfold Six.Ok at h
  simpa using h
theorem check6_bad (s : Six) (w : World) (h : ¬ s.Ok) : Calls Tryd.prog 48 #[s.v] w fun e w' => e = .returned (errv 1) ∧ Ext w w' :=
  (check6_any s w).mono fun _ _ ⟨he, hx⟩ => ⟨by rw [he, wordsErr_no (Six.bad h)], hx⟩

end Go.Proofs.YtkjchddidpjjmaaDoor
/- Segments: their cells, what may be wrong with them, and the contract of seg.Check. Conditions: as each theorem states them. -/
namespace Go.Proofs.YtkjchddidpjjmaaDoor
open Go.RowKit

/-- A segment's numbers. -/
structure Sg where
  kind : Int
  frm : Int
  to : Int
  seq : Int
  ack : Int
  flags : Int
  win : Int
def Sg.cells (s : Sg) (d : Value) : Array Value := #[.int .i64 s.kind, .int .i64 s.frm, .int .i64 s.to, .int .i64 s.seq, .int .i64 s.ack, .int .i64 s.flags, .int .i64 s.win, d]
abbrev Sg.v (s : Sg) (d : Value) : Value := .agg (s.cells d)
namespace Pl
def Word (n : Int) : Prop := 0 ≤ n ∧ n ≤ 65535
instance (n : Int) : Decidable (Word n) := by unfold Word; infer_instance
/-- What is wrong with a segment of n bytes; 0: nothing. -/
def segFault (s : Sg) (n : Nat) : Int :=
  if ¬ (s.kind = 6 ∨ s.kind = 17) ∨ ¬ Word s.frm ∨ ¬ Word s.to then 1
  else if s.kind = 6 ∧ (s.seq < 0 ∨ 4294967296 ≤ s.seq ∨ s.ack < 0 ∨ 4294967296 ≤ s.ack ∨ s.flags < 0 ∨ 31 < s.flags ∨ ¬ Word s.win) then 1
  else if s.kind = 17 ∧ (s.seq ≠ 0 ∨ s.ack ≠ 0 ∨ s.flags ≠ 0 ∨ s.win ≠ 0) then 2
  else if 300 < n then 3 else 0
end Pl
/-- An error of a number, none of 0. -/
def errOf (q : Int) : Value := if q = 0 then .nilIface else errv q
theorem errOf_zero : errOf 0 = .nilIface := rfl
theorem errOf_ne {q : Int} (h : q ≠ 0) : errOf q = errv q := by unfold errOf; rw [if_neg h]

theorem Tryd.sizeSeg : (Tryd.prog.info? 50).map (·.size) = some 8 := by kernel_rfl
section
variable {w : World} {g : Nat} {t : TypeId} {s : Sg} {d : Value}
theorem Blk.seg (h : Blk w g t (s.cells d)) : (Instr.loadAt 50 (.pointer (some ⟨g, 0, none⟩))).run Tryd.prog w = .ok (.agg (s.cells d)) w := by
  have := run_loadAt_mid (P := Tryd.prog) w g 0 50 (s.cells d).toList _ (fun j v hv => by
    rw [Array.getElem?_toList] at hv
    rw [h.cells, Nat.zero_add]; exact hv) Tryd.underlying50 rfl Tryd.sizeSeg
  rw [Array.toArray_toList] at this
  exact this
theorem Blk.sg (h : Blk w g t (s.cells d)) : w.cell? ⟨g, 0, none⟩ = some (.int .i64 s.kind) ∧ w.cell? ⟨g, 1, none⟩ = some (.int .i64 s.frm) ∧ w.cell? ⟨g, 2, none⟩ = some (.int .i64 s.to) ∧ w.cell? ⟨g, 3, none⟩ = some (.int .i64 s.seq) ∧
    w.cell? ⟨g, 4, none⟩ = some (.int .i64 s.ack) ∧ w.cell? ⟨g, 5, none⟩ = some (.int .i64 s.flags) ∧ w.cell? ⟨g, 6, none⟩ = some (.int .i64 s.win) ∧ w.cell? ⟨g, 7, none⟩ = some d :=
  ⟨h.cells 0, h.cells 1, h.cells 2, h.cells 3, h.cells 4, h.cells 5, h.cells 6, h.cells 7⟩
end

theorem known_any (k : Int) (w : World) : Calls Tryd.prog 62 #[.int .i64 k] w fun e w' => e = .returned (.bool (k == 6 || k == 17)) ∧ w = w' := by
  by_cases h : k = 6
  · have h6 : (k == 6) = true := by simpa using h
    clear h
    go_enter Tryd.func62, Tryd.ntmps62
    go_wp2
    go_ret
    exact ⟨by simp [h6], rfl⟩
  · have h6 : (k == 6) = false := by simpa using h
    clear h
    go_enter Tryd.func62, Tryd.ntmps62
    go_wp2
    go_ret
    exact ⟨by simp [h6], rfl⟩
theorem sword_yes (a : Int) (w : World) (h : Pl.Word a) : Calls Tryd.prog 63 #[.int .i64 a] w fun e w' => e = .returned (.bool true) ∧ w = w' := by
  obtain ⟨h0, h1⟩ := h
  go_enter Tryd.func63, Tryd.ntmps63
  go_wp2
  go_ret
  exact ⟨rfl, rfl⟩
theorem sword_no (a : Int) (w : World) (h : ¬ Pl.Word a) : Calls Tryd.prog 63 #[.int .i64 a] w fun e w' => e = .returned (.bool false) ∧ w = w' := by
  by_cases h0 : 0 ≤ a
  · have h1 : ¬ a ≤ 65535 := fun h1 => h ⟨h0, h1⟩
    clear h
    go_enter Tryd.func63, Tryd.ntmps63
    go_wp2
    go_ret
    exact ⟨rfl, rfl⟩
  · clear h
    go_enter Tryd.func63, Tryd.ntmps63
    go_wp2
    go_ret
    exact ⟨rfl, rfl⟩

/-- What Check gives. -/
def SegChk (s : Sg) (n : Nat) (e : Ending) : Prop := e = .returned (errOf (Pl.segFault s n))
theorem segChk_of {s : Sg} {n : Nat} {q : Int} (h : Pl.segFault s n = q) (v : Value) (hv : errOf q = v) : SegChk s n (.returned v) := by unfold SegChk; rw [h, hv]

set_option maxRecDepth 100000 in
set_option maxHeartbeats 8000000 in
theorem scheck_any (s : Sg) (a : Option Addr) (n c : Nat) (w : World) :
    Calls Tryd.prog 28 #[s.v (.slice a n c)] w fun e w' => SegChk s n e ∧ Ext w w' := by
  have K0 := Blk.new w 50 (s.cells (.slice a n c))
  have E0 : Ext w (w.alloc (.cells (s.cells (.slice a n c)) 50)) := (Ext.refl w).alloc _
  obtain ⟨c0, c1, c2, c3, c4, c5, c6, c7⟩ := K0.sg
  clear K0
  by_cases hk : s.kind = 6 ∨ s.kind = 17
  case neg =>
    have hf : Pl.segFault s n = 1 := by unfold Pl.segFault; rw [if_pos (.inl hk)]
    have h6 : (s.kind == 6) = false := by simp; omega
    have h17 : (s.kind == 17) = false := by simp; omega
    have HF := Lib.hid hf
    clear hf hk
    go_enter Tryd.func28, Tryd.ntmps28
    go_wp2_with fail
    refine (known_any _ _).mono ?_
    rintro e w' ⟨rfl, rfl⟩
    rw [h6, h17]
    go_wp2_with fail
    go_ret
    exact ⟨segChk_of HF.out _ rfl, E0⟩
  by_cases hfr : Pl.Word s.frm
  case neg =>
    have hf : Pl.segFault s n = 1 := by unfold Pl.segFault; rw [if_pos (.inr (.inl hfr))]
    have hkk : (s.kind == 6 || s.kind == 17) = true := by simp; omega
    have HF := Lib.hid hf
    have HW := Lib.hid hfr
    clear hf hk hfr
    go_enter Tryd.func28, Tryd.ntmps28
    go_wp2_with fail
    refine (known_any _ _).mono ?_
    rintro e w' ⟨rfl, rfl⟩
    rw [hkk]
    go_wp2_with fail
    refine (sword_no _ _ HW.out).mono ?_
    rintro e w' ⟨rfl, rfl⟩
    go_wp2_with fail
    go_ret
    exact ⟨segChk_of HF.out _ rfl, E0⟩
  by_cases hto : Pl.Word s.to
  case neg =>
    have hf : Pl.segFault s n = 1 := by unfold Pl.segFault; rw [if_pos (.inr (.inr hto))]
    have hkk : (s.kind == 6 || s.kind == 17) = true := by simp; omega
    have HF := Lib.hid hf
    have HW := Lib.hid hto
    have HR := Lib.hid hfr
    clear hf hk hfr hto
    go_enter Tryd.func28, Tryd.ntmps28
    go_wp2_with fail
    refine (known_any _ _).mono ?_
    rintro e w' ⟨rfl, rfl⟩
    rw [hkk]
    go_wp2_with fail
    refine (sword_yes _ _ HR.out).mono ?_
    rintro e w' ⟨rfl, rfl⟩
    go_wp2_with fail
    refine (sword_no _ _ HW.out).mono ?_
    rintro e w' ⟨rfl, rfl⟩
    go_wp2_with fail
    go_ret
    exact ⟨segChk_of HF.out _ rfl, E0⟩
  have hkk : (s.kind == 6 || s.kind == 17) = true := by simp; omega
  have h1 : ¬ (¬ (s.kind = 6 ∨ s.kind = 17) ∨ ¬ Pl.Word s.frm ∨ ¬ Pl.Word s.to) := fun h => by
    rcases h with h | h | h
    · exact h hk
    · exact h hfr
    · exact h hto
  have HR := Lib.hid hfr
  have HT := Lib.hid hto
  clear hfr hto
  rcases hk with hk | hk
  case inl =>
    have h6 : (s.kind == 6) = true := by simpa using hk
    have h17 : (s.kind == 17) = false := by simp; omega
    by_cases g0 : 0 ≤ s.seq
    case neg =>
      have hf : Pl.segFault s n = 1 := by unfold Pl.segFault; rw [if_neg h1, if_pos ⟨hk, by omega⟩]
      have HF := Lib.hid hf
      clear hf hk h1
      go_enter Tryd.func28, Tryd.ntmps28
      go_wp2_with fail
      refine (known_any _ _).mono ?_
      rintro e w' ⟨rfl, rfl⟩
      rw [hkk]
      go_wp2_with fail
      refine (sword_yes _ _ HR.out).mono ?_
      rintro e w' ⟨rfl, rfl⟩
      go_wp2_with fail
      refine (sword_yes _ _ HT.out).mono ?_
      rintro e w' ⟨rfl, rfl⟩
      go_wp2_with fail
      go_ret
      exact ⟨segChk_of HF.out _ rfl, E0⟩
    by_cases g1 : s.seq < 4294967296
    case neg =>
      have hf : Pl.segFault s n = 1 := by unfold Pl.segFault; rw [if_neg h1, if_pos ⟨hk, by omega⟩]
      have HF := Lib.hid hf
      clear hf hk h1
      go_enter Tryd.func28, Tryd.ntmps28
      go_wp2_with fail
      refine (known_any _ _).mono ?_
      rintro e w' ⟨rfl, rfl⟩
      rw [hkk]
      go_wp2_with fail
      refine (sword_yes _ _ HR.out).mono ?_
      rintro e w' ⟨rfl, rfl⟩
      go_wp2_with fail
      refine (sword_yes _ _ HT.out).mono ?_
      rintro e w' ⟨rfl, rfl⟩
      go_wp2_with fail
      go_ret
      exact ⟨segChk_of HF.out _ rfl, E0⟩
    by_cases g2 : 0 ≤ s.ack
    case neg =>
      have hf : Pl.segFault s n = 1 := by unfold Pl.segFault; rw [if_neg h1, if_pos ⟨hk, by omega⟩]
      have HF := Lib.hid hf
      clear hf hk h1
      go_enter Tryd.func28, Tryd.ntmps28
      go_wp2_with fail
      refine (known_any _ _).mono ?_
      rintro e w' ⟨rfl, rfl⟩
      rw [hkk]
      go_wp2_with fail
      refine (sword_yes _ _ HR.out).mono ?_
      rintro e w' ⟨rfl, rfl⟩
      go_wp2_with fail
      refine (sword_yes _ _ HT.out).mono ?_
      rintro e w' ⟨rfl, rfl⟩
      go_wp2_with fail
      go_ret
      exact ⟨segChk_of HF.out _ rfl, E0⟩
    by_cases g3 : s.ack < 4294967296
    case neg =>
      have hf : Pl.segFault s n = 1 := by unfold Pl.segFault; rw [if_neg h1, if_pos ⟨hk, by omega⟩]
      have HF := Lib.hid hf
      clear hf hk h1
      go_enter Tryd.func28, Tryd.ntmps28
      go_wp2_with fail
      refine (known_any _ _).mono ?_
      rintro e w' ⟨rfl, rfl⟩
      rw [hkk]
      go_wp2_with fail
      refine (sword_yes _ _ HR.out).mono ?_
      rintro e w' ⟨rfl, rfl⟩
      go_wp2_with fail
      refine (sword_yes _ _ HT.out).mono ?_
      rintro e w' ⟨rfl, rfl⟩
      go_wp2_with fail
      go_ret
      exact ⟨segChk_of HF.out _ rfl, E0⟩
    by_cases g4 : 0 ≤ s.flags
    case neg =>
      have hf : Pl.segFault s n = 1 := by unfold Pl.segFault; rw [if_neg h1, if_pos ⟨hk, by omega⟩]
      have HF := Lib.hid hf
      clear hf hk h1
      go_enter Tryd.func28, Tryd.ntmps28
      go_wp2_with fail
      refine (known_any _ _).mono ?_
      rintro e w' ⟨rfl, rfl⟩
      rw [hkk]
      go_wp2_with fail
      refine (sword_yes _ _ HR.out).mono ?_
      rintro e w' ⟨rfl, rfl⟩
      go_wp2_with fail
      refine (sword_yes _ _ HT.out).mono ?_
      rintro e w' ⟨rfl, rfl⟩
      go_wp2_with fail
      go_ret
      exact ⟨segChk_of HF.out _ rfl, E0⟩
    by_cases g5 : s.flags ≤ 31
    case neg =>
      have hf : Pl.segFault s n = 1 := by unfold Pl.segFault; rw [if_neg h1, if_pos ⟨hk, by omega⟩]
      have HF := Lib.hid hf
      clear hf hk h1
      go_enter Tryd.func28, Tryd.ntmps28
      go_wp2_with fail
      refine (known_any _ _).mono ?_
      rintro e w' ⟨rfl, rfl⟩
      rw [hkk]
      go_wp2_with fail
      refine (sword_yes _ _ HR.out).mono ?_
      rintro e w' ⟨rfl, rfl⟩
      go_wp2_with fail
      refine (sword_yes _ _ HT.out).mono ?_
      rintro e w' ⟨rfl, rfl⟩
      go_wp2_with fail
      go_ret
      exact ⟨segChk_of HF.out _ rfl, E0⟩
    by_cases hw : Pl.Word s.win
    case neg =>
      have hf : Pl.segFault s n = 1 := by unfold Pl.segFault; rw [if_neg h1, if_pos ⟨hk, .inr (.inr (.inr (.inr (.inr (.inr hw)))))⟩]
      have HF := Lib.hid hf
      have HW := Lib.hid hw
      clear hf hk h1 hw
      go_enter Tryd.func28, Tryd.ntmps28
      go_wp2_with fail
      refine (known_any _ _).mono ?_
      rintro e w' ⟨rfl, rfl⟩
      rw [hkk]
      go_wp2_with fail
      refine (sword_yes _ _ HR.out).mono ?_
      rintro e w' ⟨rfl, rfl⟩
      go_wp2_with fail
      refine (sword_yes _ _ HT.out).mono ?_
      rintro e w' ⟨rfl, rfl⟩
      go_wp2_with fail
      refine (sword_no _ _ HW.out).mono ?_
      rintro e w' ⟨rfl, rfl⟩
      go_wp2_with fail
      go_ret
      exact ⟨segChk_of HF.out _ rfl, E0⟩
    have h2 : ¬ (s.kind = 6 ∧ (s.seq < 0 ∨ 4294967296 ≤ s.seq ∨ s.ack < 0 ∨ 4294967296 ≤ s.ack ∨ s.flags < 0 ∨ 31 < s.flags ∨ ¬ Pl.Word s.win)) := by
      rintro ⟨_, h | h | h | h | h | h | h⟩
      · omega
      · omega
      · omega
      · omega
      · omega
      · omega
      · exact h hw
    have h3 : ¬ (s.kind = 17 ∧ (s.seq ≠ 0 ∨ s.ack ≠ 0 ∨ s.flags ≠ 0 ∨ s.win ≠ 0)) := fun h => by omega
    have HW := Lib.hid hw
    by_cases hn : n ≤ 300
    case neg =>
      have hf : Pl.segFault s n = 3 := by unfold Pl.segFault; rw [if_neg h1, if_neg h2, if_neg h3, if_pos (by omega)]
      have HF := Lib.hid hf
      clear hf hk h1 h2 h3 hw
      go_enter Tryd.func28, Tryd.ntmps28
      go_wp2_with fail
      refine (known_any _ _).mono ?_
      rintro e w' ⟨rfl, rfl⟩
      rw [hkk]
      go_wp2_with fail
      refine (sword_yes _ _ HR.out).mono ?_
      rintro e w' ⟨rfl, rfl⟩
      go_wp2_with fail
      refine (sword_yes _ _ HT.out).mono ?_
      rintro e w' ⟨rfl, rfl⟩
      go_wp2_with fail
      refine (sword_yes _ _ HW.out).mono ?_
      rintro e w' ⟨rfl, rfl⟩
      go_wp2_with fail
      go_ret
      exact ⟨segChk_of HF.out _ rfl, E0⟩
    have hf : Pl.segFault s n = 0 := by unfold Pl.segFault; rw [if_neg h1, if_neg h2, if_neg h3, if_neg (by omega)]
    have HF := Lib.hid hf
    clear hf hk h1 h2 h3 hw
    go_enter Tryd.func28, Tryd.ntmps28
    go_wp2_with fail
    refine (known_any _ _).mono ?_
    rintro e w' ⟨rfl, rfl⟩
    rw [hkk]
    go_wp2_with fail
    refine (sword_yes _ _ HR.out).mono ?_
    rintro e w' ⟨rfl, rfl⟩
    go_wp2_with fail
    refine (sword_yes _ _ HT.out).mono ?_
    rintro e w' ⟨rfl, rfl⟩
    go_wp2_with fail
    refine (sword_yes _ _ HW.out).mono ?_
    rintro e w' ⟨rfl, rfl⟩
    go_wp2_with fail
    go_ret
    exact ⟨segChk_of HF.out _ rfl, E0⟩
  case inr =>
    have h6 : (s.kind == 6) = false := by simp; omega
    have h17 : (s.kind == 17) = true := by simpa using hk
    have h2 : ¬ (s.kind = 6 ∧ (s.seq < 0 ∨ 4294967296 ≤ s.seq ∨ s.ack < 0 ∨ 4294967296 ≤ s.ack ∨ s.flags < 0 ∨ 31 < s.flags ∨ ¬ Pl.Word s.win)) := fun h => by omega
    by_cases z0 : s.seq = 0
    case neg =>
      have y0 : (s.seq != 0) = true := by simpa using z0
      have hf : Pl.segFault s n = 2 := by unfold Pl.segFault; rw [if_neg h1, if_neg h2, if_pos ⟨hk, by omega⟩]
      have HF := Lib.hid hf
      clear hf hk h1 h2 z0
      go_enter Tryd.func28, Tryd.ntmps28
      go_wp2_with fail
      refine (known_any _ _).mono ?_
      rintro e w' ⟨rfl, rfl⟩
      rw [hkk]
      go_wp2_with fail
      refine (sword_yes _ _ HR.out).mono ?_
      rintro e w' ⟨rfl, rfl⟩
      go_wp2_with fail
      refine (sword_yes _ _ HT.out).mono ?_
      rintro e w' ⟨rfl, rfl⟩
      go_wp2_with fail
      go_ret
      exact ⟨segChk_of HF.out _ rfl, E0⟩
    have y0 : (s.seq != 0) = false := by simpa using z0
    by_cases z1 : s.ack = 0
    case neg =>
      have y1 : (s.ack != 0) = true := by simpa using z1
      have hf : Pl.segFault s n = 2 := by unfold Pl.segFault; rw [if_neg h1, if_neg h2, if_pos ⟨hk, by omega⟩]
      have HF := Lib.hid hf
      clear hf hk h1 h2 z1 z0
      go_enter Tryd.func28, Tryd.ntmps28
      go_wp2_with fail
      refine (known_any _ _).mono ?_
      rintro e w' ⟨rfl, rfl⟩
      rw [hkk]
      go_wp2_with fail
      refine (sword_yes _ _ HR.out).mono ?_
      rintro e w' ⟨rfl, rfl⟩
      go_wp2_with fail
      refine (sword_yes _ _ HT.out).mono ?_
      rintro e w' ⟨rfl, rfl⟩
      go_wp2_with fail
      go_ret
      exact ⟨segChk_of HF.out _ rfl, E0⟩
    have y1 : (s.ack != 0) = false := by simpa using z1
    by_cases z2 : s.flags = 0
    case neg =>
      have y2 : (s.flags != 0) = true := by simpa using z2
      have hf : Pl.segFault s n = 2 := by unfold Pl.segFault; rw [if_neg h1, if_neg h2, if_pos ⟨hk, by omega⟩]
      have HF := Lib.hid hf
      clear hf hk h1 h2 z2 z0 z1
      go_enter Tryd.func28, Tryd.ntmps28
      go_wp2_with fail
      refine (known_any _ _).mono ?_
      rintro e w' ⟨rfl, rfl⟩
      rw [hkk]
      go_wp2_with fail
      refine (sword_yes _ _ HR.out).mono ?_
      rintro e w' ⟨rfl, rfl⟩
      go_wp2_with fail
      refine (sword_yes _ _ HT.out).mono ?_
      rintro e w' ⟨rfl, rfl⟩
      go_wp2_with fail
      go_ret
      exact ⟨segChk_of HF.out _ rfl, E0⟩
    have y2 : (s.flags != 0) = false := by simpa using z2
    by_cases z3 : s.win = 0
    case neg =>
      have y3 : (s.win != 0) = true := by simpa using z3
      have hf : Pl.segFault s n = 2 := by unfold Pl.segFault; rw [if_neg h1, if_neg h2, if_pos ⟨hk, by omega⟩]
      have HF := Lib.hid hf
      clear hf hk h1 h2 z3 z0 z1 z2
      go_enter Tryd.func28, Tryd.ntmps28
      go_wp2_with fail
      refine (known_any _ _).mono ?_
      rintro e w' ⟨rfl, rfl⟩
      rw [hkk]
      go_wp2_with fail
      refine (sword_yes _ _ HR.out).mono ?_
      rintro e w' ⟨rfl, rfl⟩
      go_wp2_with fail
      refine (sword_yes _ _ HT.out).mono ?_
      rintro e w' ⟨rfl, rfl⟩
      go_wp2_with fail
      go_ret
      exact ⟨segChk_of HF.out _ rfl, E0⟩
    have y3 : (s.win != 0) = false := by simpa using z3
    have h3 : ¬ (s.kind = 17 ∧ (s.seq ≠ 0 ∨ s.ack ≠ 0 ∨ s.flags ≠ 0 ∨ s.win ≠ 0)) := fun h => by omega
    clear z0 z1 z2 z3
    by_cases hn : n ≤ 300
    case neg =>
      have hf : Pl.segFault s n = 3 := by unfold Pl.segFault; rw [if_neg h1, if_neg h2, if_neg h3, if_pos (by omega)]
      have HF := Lib.hid hf
      clear hf hk h1 h2 h3
      go_enter Tryd.func28, Tryd.ntmps28
      go_wp2_with fail
      refine (known_any _ _).mono ?_
      rintro e w' ⟨rfl, rfl⟩
      rw [hkk]
      go_wp2_with fail
      refine (sword_yes _ _ HR.out).mono ?_
      rintro e w' ⟨rfl, rfl⟩
      go_wp2_with fail
      refine (sword_yes _ _ HT.out).mono ?_
      rintro e w' ⟨rfl, rfl⟩
      go_wp2_with fail
      go_ret
      exact ⟨segChk_of HF.out _ rfl, E0⟩
    have hf : Pl.segFault s n = 0 := by unfold Pl.segFault; rw [if_neg h1, if_neg h2, if_neg h3, if_neg (by omega)]
    have HF := Lib.hid hf
    clear hf hk h1 h2 h3
    go_enter Tryd.func28, Tryd.ntmps28
    go_wp2_with fail
    refine (known_any _ _).mono ?_
    rintro e w' ⟨rfl, rfl⟩
    rw [hkk]
    go_wp2_with fail
    refine (sword_yes _ _ HR.out).mono ?_
    rintro e w' ⟨rfl, rfl⟩
    go_wp2_with fail
    refine (sword_yes _ _ HT.out).mono ?_
    rintro e w' ⟨rfl, rfl⟩
    go_wp2_with fail
    go_ret
    exact ⟨segChk_of HF.out _ rfl, E0⟩
end Go.Proofs.YtkjchddidpjjmaaDoor
