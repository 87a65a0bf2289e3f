/- Lemmas of this seat, bound together: Ip4e Slice BackOwn MapE DownB Pack6s. Conditions: as each lemma states them. -/
import Derived.Test.YtbjogkpepfgegaaGreatDoorK05
import Derived.Test.YtbjogkpepfgegaaGreatDoorK01
import Derived.Test.YtbjogkpepfgegaaGreatDoorK02
import Derived.Test.YtbjogkpepfgegaaGreatDoorK04
import Derived.Test.YtbjogkpepfgegaaGreatDoorK03
namespace Go.Proofs.YtbjogkpepfgegaaGreatDoor
open Go.RowKit

namespace Pl
/-- The head of a packet of fours, with a check. -/
def first4 (t k i n c : Int) : List Int := [69, 0, (20 + n) / 256, (20 + n) % 256, i / 256, i % 256, 64, 0, t, k, c / 256, c % 256]
def head4 (s d t k i n c : Int) : List Int := first4 t k i n c ++ four s ++ four d
def sum4 (s d t k i n : Int) : Int := 65535 - fold (raw 0 (head4 s d t k i n 0))
/-- A packet's bytes. -/
def enc4 (s d t k i : Int) (b : List Int) : List Int := head4 s d t k i b.length (sum4 s d t k i b.length) ++ b
theorem head4_isB {s d t k i n c : Int} (h : Ok4 s d t k i) (hn : 0 ≤ n ∧ n ≤ 320) (hc : 0 ≤ c ∧ c ≤ 65535) : IsB (head4 s d t k i n c) := by
  obtain ⟨⟨s0, s1⟩, ⟨d0, d1⟩, ⟨t0, t1⟩, ⟨k0, k1⟩, ⟨i0, i1⟩⟩ := h
  refine (IsB.append ?_ (four_isB s0 s1)).append (four_isB d0 d1)
  unfold first4
  repeat (first | exact .nil | refine .cons (by omega) (by omega) ?_)
theorem head4_length (s d t k i n c : Int) : (head4 s d t k i n c).length = 20 := rfl
theorem head4_set (s d t k i n c : Int) : ((head4 s d t k i n 0).set 10 (c / 256)).set 11 (c % 256) = head4 s d t k i n c := rfl
theorem sum4_bd (s d t k i n : Int) : 0 ≤ sum4 s d t k i n ∧ sum4 s d t k i n ≤ 65535 := by
  have h0 := fold_lo (raw 0 (head4 s d t k i n 0))
  have h1 := fold_hi (raw 0 (head4 s d t k i n 0))
  unfold sum4
  omega
theorem enc4_isB {s d t k i : Int} {b : List Int} (h : Ok4 s d t k i) (hb : IsB b) (hn : b.length ≤ 320) : IsB (enc4 s d t k i b) :=
  (head4_isB h (by omega) (sum4_bd ..)).append hb
theorem enc4_length (s d t k i : Int) (b : List Int) : (enc4 s d t k i b).length = 20 + b.length := by
  unfold enc4
  rw [List.length_append, head4_length]
end Pl

set_option maxRecDepth 100000 in
set_option maxHeartbeats 1600000 in
theorem encode4_any (s d t k i : Int) (a : Option Addr) (n c : Nat) (b : List Int) (w : World) (h : Pl.Ok4 s d t k i) (hn : n ≤ 320) (hr : Ints .u8 w a n b) :
    Calls Tryz.prog 75 #[pk4 s d t k i (.slice a n c)] w fun e w' => ∃ v, e = .returned v ∧ Own w' w.heap.size v (Pl.enc4 s d t k i b) ∧ Below w.heap.size w w' := by
  have hok := h
  obtain ⟨⟨s0, s1⟩, ⟨d0, d1⟩, ⟨t0, t1⟩, ⟨k0, k1⟩, ⟨i0, i1⟩⟩ := h
  have hl := hr.len
  have HL := Lib.hid hl
  have e2 : IntKind.u8.wrap (20 + (n : Int)) = (20 + (n : Int)) % 256 := by rw [IntKind.wrap_u8]
  have e3 : IntKind.u8.wrap i = i % 256 := by rw [IntKind.wrap_u8]
  clear hl
  unfold pk4
  go_enter Tryz.func75, Tryz.ntmps75
  go_wp2_with fail
  clear e2 e3
  have B1 : Below w.heap.size w ((w.alloc (.cells #[.int .i64 s, .int .i64 d, .int .i64 t, .int .i64 k, .int .i64 i, .slice a n c] 44)).alloc
      (.cells #[.int .u8 69, .int .u8 0, .int .u8 ((20 + ↑n) / 256), .int .u8 ((20 + ↑n) % 256), .int .u8 (i / 256), .int .u8 (i % 256), .int .u8 64, .int .u8 0, .int .u8 t, .int .u8 k, .int .u8 0, .int .u8 0] 5)) := by go_grown
  have q0 : ((w.alloc (.cells #[.int .i64 s, .int .i64 d, .int .i64 t, .int .i64 k, .int .i64 i, .slice a n c] 44)).alloc
      (.cells #[.int .u8 69, .int .u8 0, .int .u8 ((20 + ↑n) / 256), .int .u8 ((20 + ↑n) % 256), .int .u8 (i / 256), .int .u8 (i % 256), .int .u8 64, .int .u8 0, .int .u8 t, .int .u8 k, .int .u8 0, .int .u8 0] 5)).cell? ⟨w.heap.size, 0, none⟩ = some (.int .i64 s) := by simp [go_sem, World.cell?_alloc_past]
  have q1 : ((w.alloc (.cells #[.int .i64 s, .int .i64 d, .int .i64 t, .int .i64 k, .int .i64 i, .slice a n c] 44)).alloc
      (.cells #[.int .u8 69, .int .u8 0, .int .u8 ((20 + ↑n) / 256), .int .u8 ((20 + ↑n) % 256), .int .u8 (i / 256), .int .u8 (i % 256), .int .u8 64, .int .u8 0, .int .u8 t, .int .u8 k, .int .u8 0, .int .u8 0] 5)).cell? ⟨w.heap.size, 1, none⟩ = some (.int .i64 d) := by simp [go_sem, World.cell?_alloc_past]
  have q5 : ((w.alloc (.cells #[.int .i64 s, .int .i64 d, .int .i64 t, .int .i64 k, .int .i64 i, .slice a n c] 44)).alloc
      (.cells #[.int .u8 69, .int .u8 0, .int .u8 ((20 + ↑n) / 256), .int .u8 ((20 + ↑n) % 256), .int .u8 (i / 256), .int .u8 (i % 256), .int .u8 64, .int .u8 0, .int .u8 t, .int .u8 k, .int .u8 0, .int .u8 0] 5)).cell? ⟨w.heap.size, 5, none⟩ = some (.slice a n c) := by simp [go_sem, World.cell?_alloc_past]
  have o1 := Own.built (w.alloc (.cells #[.int .i64 s, .int .i64 d, .int .i64 t, .int .i64 k, .int .i64 i, .slice a n c] 44)) (w.heap.size + 1)
      #[.int .u8 69, .int .u8 0, .int .u8 ((20 + ↑n) / 256), .int .u8 ((20 + ↑n) % 256), .int .u8 (i / 256), .int .u8 (i % 256), .int .u8 64, .int .u8 0, .int .u8 t, .int .u8 k, .int .u8 0, .int .u8 0] (Pl.first4 t k i n 0) 12 rfl rfl (by simp) (by simp [Pl.first4])
  have hsz : ((w.alloc (.cells #[.int .i64 s, .int .i64 d, .int .i64 t, .int .i64 k, .int .i64 i, .slice a n c] 44)).alloc
      (.cells #[.int .u8 69, .int .u8 0, .int .u8 ((20 + ↑n) / 256), .int .u8 ((20 + ↑n) % 256), .int .u8 (i / 256), .int .u8 (i % 256), .int .u8 64, .int .u8 0, .int .u8 t, .int .u8 k, .int .u8 0, .int .u8 0] 5)).heap.size = w.heap.size + 2 := by simp
  simp only [World.size_alloc] at o1
  generalize (w.alloc (.cells #[.int .i64 s, .int .i64 d, .int .i64 t, .int .i64 k, .int .i64 i, .slice a n c] 44)).alloc _ = W1 at *
  have hsz1 : w.heap.size + 2 ≤ W1.heap.size := by omega
  clear hsz
  go_region_held3 (fun w' => w'.cell? ⟨w.heap.size, 0, none⟩ = some (.int .i64 s) ∧ w'.cell? ⟨w.heap.size, 1, none⟩ = some (.int .i64 d))
    (first | go_keep | (refine ⟨?_, ?_⟩ <;> go_keep) | (go_split_ands; refine ⟨?_, ?_⟩ <;> go_keep) | (go_split_ands; refine ⟨?_, ?_⟩ <;> (rw [b2.cell (by simp; omega)]; first | assumption | simp [*])) | (go_split_ands; refine ⟨?_, ?_⟩ <;> (rw [b3.cell (by simp)]; assumption)) | (go_split_ands; refine ⟨?_, ?_⟩ <;> (rw [b4.cell (by have h2 := b2.size; have h3 := b3.size; simp at h2; simp; omega)]; assumption)) | (go_split_ands; refine ⟨?_, ?_⟩ <;> (rw [b5.cell (by simp)]; assumption)))
    (first
      | (go_at_call 78; (with_reducible refine (raw4_any s _ s0 s1).mono ?_); rintro e W2 ⟨v2, rfl, o2, b2⟩; obtain ⟨a2, n2, c2, rfl, l2, r2⟩ := o2.read; obtain rfl : 4 = n2 := r2.len)
      | (go_at_call 78; (with_reducible refine (raw4_any d _ d0 d1).mono ?_); rintro e W4 ⟨v4, rfl, o4, b4⟩; obtain ⟨a4, n4, c4, rfl, l4, r4⟩ := o4.read; obtain rfl : 4 = n4 := r4.len)
      | (refine step_app (by rfl) (Operand.tmp 29) (Operand.tmp 32) (by rfl) (w.heap.size + 1) _ (Pl.first4 t k i n 0) (by rfl) ?_ _ _ _ (Pl.four s) (by rfl) ?_ ?_ ?_ ?_; go_must ((exact o1.drew.below b2 o1.drew.lt')); go_must (exact r2); go_must ((simp [Pl.first4])); go_must ((have := b2.size; simp at this; omega)); intro v3 W3 o3 b3)
      | (refine step_app (by rfl) (Operand.tmp 33) (Operand.tmp 36) (by rfl) (w.heap.size + 1) _ (Pl.first4 t k i n 0 ++ Pl.four s) (by rfl) ?_ _ _ _ (Pl.four d) (by rfl) ?_ ?_ ?_ ?_; go_must (exact o3.below b4 o3.lt'); go_must (exact r4); go_must ((simp [Pl.first4, Pl.four])); go_must ((have h2 := b2.size; have h3 := b3.size; have h4 := b4.size; simp at h2; omega)); intro v5 W5 o5 b5))
  have hs2 := b2.size
  have hs3 := b3.size
  have hs4 := b4.size
  simp only [World.size_drew] at hs2
  have B5 : Below w.heap.size w W5 := (((B1.drew.trans (b2.mono (by simp; omega))).trans (b3.mono (by omega))).trans (b4.mono (by omega))).trans (b5.mono (by omega))
  have q5' : W5.cell? ⟨w.heap.size, 5, none⟩ = some (.slice a n c) := by
    rw [b5.cell (by simp), b4.cell (by simp; omega), b3.cell (by simp), b2.cell (by simp; omega)]
    simpa using q5
  have HH : Pl.first4 t k i n 0 ++ Pl.four s ++ Pl.four d = Pl.head4 s d t k i n 0 := rfl
  rw [HH] at o5
  clear HH q0 q1 q5 b2 b3 b4 r2 r4 o1 o2 o3 o4 hs2 hs3 hs4 l2 l4
  have hB := Pl.head4_isB hok (n := (n : Int)) (c := 0) (by omega) (by omega)
  have hsum := Pl.sum4_bd s d t k i n
  obtain ⟨gg, nn, cc, rfl, hnn, hcc, hg0, hg1, hcell, hfr⟩ := o5.shape (by rw [Pl.head4_length]; omega)
  obtain rfl : 20 = nn := hnn
  have hc10 := hcell 10 (by omega)
  have hc11 := hcell 11 (by omega)
  have hf10 := hfr 10
  have hf11 := hfr 11
  clear hcell hfr
  obtain ⟨pa, na, ca, hpa, _, r5⟩ := o5.read
  cases hpa
  go_wp2_with fail
  with_reducible refine (raw_any _ _ _ _ _ r5 hB (by omega)).mono ?_
  rintro e w' ⟨rfl, rfl⟩
  have hC : Pl.fold (Pl.raw 0 (Pl.head4 s d t k i n 0)) = 65535 - Pl.sum4 s d t k i n := by unfold Pl.sum4; omega
  rw [hC]
  clear hC
  have e9 : IntKind.u8.wrap (Pl.sum4 s d t k i n) = Pl.sum4 s d t k i n % 256 := by rw [IntKind.wrap_u8]
  generalize hcs : Pl.sum4 s d t k i n = C at *
  have HCS := Lib.hid hcs
  clear hcs
  obtain ⟨c0, c1⟩ := hsum
  have e10 : (65535 - (65535 - C)) = C := by omega
  have e8 : IntKind.i64.wrap (65535 - (65535 - C)) = C := by rw [e10]; exact IntWalk.i64_in _ (by omega)
  go_wp2_with (at_builtin; refine Halt.out ?_)
  refine Halt.mk ?_
  have o6 := (o5.store 10 (C / 256)).store 11 (C % 256)
  rw [Pl.head4_set] at o6
  have B6 : Below w.heap.size w ((W5.setCell ⟨gg, 10, none⟩ (.int .u8 (C / 256))).setCell ⟨gg, 11, none⟩ (.int .u8 (C % 256))) :=
    (B5.setCell (p := ⟨gg, 10, none⟩) (by show w.heap.size ≤ gg; omega) _).setCell (p := ⟨gg, 11, none⟩) (by show w.heap.size ≤ gg; omega) _
  have hsz6 : w.heap.size + 1 ≤ ((W5.setCell ⟨gg, 10, none⟩ (.int .u8 (C / 256))).setCell ⟨gg, 11, none⟩ (.int .u8 (C % 256))).heap.size := by simp; omega
  refine app rfl _ _ rfl (w.heap.size + 1) _ _ rfl o6 a n c b rfl (hr.below B6) (by rw [Pl.head4_length]; omega) hsz6 ?_
  intro v7 W7 o7 b7
  go_wp2_with fail
  go_ret
  refine ⟨v7, rfl, ?_, B6.trans (b7.mono (by omega))⟩
  unfold Pl.enc4
  rw [HL.out, HCS.out]
  exact o7.mono (by omega)
end Go.Proofs.YtbjogkpepfgegaaGreatDoor
namespace Go.Proofs.YtbjogkpepfgegaaGreatDoor
open Go.RowKit
theorem Tryz.elemBytes : Tryz.prog.elem 37 = 5 := by kernel_rfl
theorem Tryz.sizeByte : ∀ w : World, (sizeOf 5).run Tryz.prog w = .ok 1 w := fun w => by kernel_rfl

/-- x[lo:hi]. -/
theorem slice_bytes (a : Option Addr) (n c lo len : Nat) (i j : Int) (hi0 : i = lo) (hj0 : j = ((lo + len : Nat) : Int)) (hhi : lo + len ≤ n) (hnc : n ≤ c) (hn : a = none → c = 0) :
    ∃ AA cc, (∀ (w : World) (xs : List Int), Ints .u8 w a n xs → Ints .u8 w AA len ((xs.drop lo).take len)) ∧ (AA = none → cc = 0) ∧ len ≤ cc ∧
      ∀ W : World, (Instr.slice 37 (.slice a n c) (some (.int .i64 i)) (some (.int .i64 j)) none).run Tryz.prog W = .ok (.slice AA len cc) W := by
  subst hi0 hj0
  refine ⟨if c = lo then a else a.map (·.add (lo * 1)), c - lo, fun w xs h => ?_, fun h => ?_, by omega, fun W => ?_⟩
  · by_cases hz : len = 0
    · exact ⟨by rw [List.length_take, List.length_drop, h.1]; omega, .inl hz⟩
    · obtain ⟨b, off, rfl, _, _⟩ := h.at (by omega)
      rw [if_neg (by omega), Option.map_some, Addr.add_lit, Nat.mul_one]
      have := h.sub lo (lo + len) (by omega) hhi
      rwa [Nat.add_sub_cancel_left] at this
  · cases a with
    | none => have := hn rfl; omega
    | some p =>
      by_cases hc : c = lo
      · rw [if_pos hc] at h; cases h
      · rw [if_neg hc] at h; cases h
  · rw [run_slice_lh W 37 a n c (by rw [Tryz.elemBytes]; exact Tryz.underlying37) .i64 .i64 (lo : Int) ((lo + len : Nat) : Int) (by omega) (by omega) (by omega), Tryz.elemBytes, Tryz.sizeByte]
    simp only [Result.andThen_ok, sliced, Int.toNat_natCast, Nat.add_sub_cancel_left]
/-- What is owned, read where it is handed on; nil has no room. -/
theorem Own.readn {w : World} {B : Nat} {v : Value} {xs : List Int} (h : Own w B v xs) : ∃ a n cap, v = .slice a n cap ∧ n ≤ cap ∧ Ints .u8 w a n xs ∧ (a = none → cap = 0) := by
  have h0 := h
  rcases h.2 with ⟨rfl, hn⟩ | ⟨g, cap, cur, rfl, _⟩
  · obtain rfl : xs = [] := List.length_eq_zero_iff.1 hn
    exact ⟨none, 0, 0, rfl, Nat.le_refl _, Ints.nil, fun _ => rfl⟩
  · obtain ⟨a, n, cap', hv, hc, hi⟩ := h0.read
    cases hv
    exact ⟨_, _, _, rfl, hc, hi, fun h => by cases h⟩
theorem only_trans {a b c : World} {g : Nat} (h : a.grownBy b (some g)) (k : b.grownBy c (some g)) : a.grownBy c (some g) :=
  ⟨k.os.trans h.os, k.tape.trans h.tape, k.output.trans h.output, Nat.le_trans h.size k.size, fun i hi hne => (k.block i (Nat.lt_of_lt_of_le hi h.size) hne).trans (h.block i hi hne)⟩
theorem only_ext {a b c : World} {g : Nat} (h : a.grownBy b (some g)) (k : Ext b c) : a.grownBy c (some g) := only_trans h ⟨k.os, k.tape, k.output, k.size, fun i hi _ => k.block i hi⟩
theorem getD_all {xs : List Int} {P : Int → Prop} (h : ∀ x ∈ xs, P x) (h0 : P 0) (k : Nat) : P (xs.getD k 0) := by
  by_cases hk : k < xs.length
  · rw [List.getD_eq_getElem?_getD, List.getElem?_eq_getElem hk]
    exact h _ (List.getElem_mem hk)
  · rw [List.getD_eq_getElem?_getD, List.getElem?_eq_none (by omega)]
    exact h0
end Go.Proofs.YtbjogkpepfgegaaGreatDoor
namespace Go.Proofs.YtbjogkpepfgegaaGreatDoor
open Go.RowKit

def bkcells (bs : List Pl.Back) : List Value := bs.flatMap fun b => [.int .i64 b.id, .int .i64 b.addr, .int .i64 b.door, .int .i64 b.weight, .bool b.up, .bool b.drain]
theorem bkcells_length (bs : List Pl.Back) : (bkcells bs).length = bs.length * 6 := by
  induction bs with
  | nil => rfl
  | cons b r ih => unfold bkcells at *; rw [List.flatMap_cons, List.length_append, ih]; simp; omega
theorem bkcells_append (xs ys : List Pl.Back) : bkcells xs ++ bkcells ys = bkcells (xs ++ ys) := by simp [bkcells]
theorem bkcells_at (bs : List Pl.Back) : ∀ (i r : Nat), i < bs.length → r < 6 → (bkcells bs)[i * 6 + r]? = [.int .i64 (bs.getD i Pl.back0).id, .int .i64 (bs.getD i Pl.back0).addr, .int .i64 (bs.getD i Pl.back0).door, .int .i64 (bs.getD i Pl.back0).weight, .bool (bs.getD i Pl.back0).up, .bool (bs.getD i Pl.back0).drain][r]? := by
  induction bs with
  | nil => intro i r hi; simp at hi
  | cons b t ih =>
    intro i r hi hr
    have e : bkcells (b :: t) = [.int .i64 b.id, .int .i64 b.addr, .int .i64 b.door, .int .i64 b.weight, .bool b.up, .bool b.drain] ++ bkcells t := by simp [bkcells]
    rw [e]
    cases i with
    | zero =>
      rw [List.getElem?_append_left (by simp; omega)]
      simp
    | succ i =>
      rw [List.getElem?_append_right (by simp; omega)]
      have := ih i r (by simpa using hi) hr
      rw [show (i + 1) * 6 + r - ([.int .i64 b.id, .int .i64 b.addr, .int .i64 b.door, .int .i64 b.weight, .bool b.up, .bool b.drain] : List Value).length = i * 6 + r from by simp; omega, this]
      simp
theorem bkcells_one (bs : List Pl.Back) : ∀ u ∈ bkcells bs, u.oneCell' = true := fun u hu => by
  obtain ⟨b, _, hu⟩ := List.mem_flatMap.1 hu
  simp only [List.mem_cons, List.not_mem_nil, or_false] at hu
  rcases hu with rfl | rfl | rfl | rfl | rfl | rfl <;> rfl

/-- v is a slice of the servers bs, nil or at the head of a block from B on that the call has made. -/
def OwnB (w : World) (B : Nat) (v : Value) (bs : List Pl.Back) : Prop := w.ownsRow B 34 6 v bs.length (bkcells bs)
theorem OwnB.nil (w : World) (B : Nat) : OwnB w B (.slice none 0 0) [] := World.ownsRow_nil w B _ 6
theorem OwnB.lt {w : World} {B : Nat} {v : Value} {xs : List Pl.Back} (h : OwnB w B v xs) : ∀ k, v.ownBlock = some k → B ≤ k ∧ k < w.heap.size := World.ownsRow.lt h
theorem OwnB.ext {w w' : World} {B : Nat} {v : Value} {xs : List Pl.Back} (h : OwnB w B v xs) (hb : Ext w w') : OwnB w' B v xs := by
  have hC := h.lt
  refine ⟨h.1, ?_⟩
  rcases h.2 with hn | ⟨g, cap, cur, rfl, hg, hh, rest⟩
  · exact .inl hn
  · exact .inr ⟨g, cap, cur, rfl, hg, by rw [Below.block hb g (hC g rfl).2]; exact hh, rest⟩
/-- Only what it owns has turned: another row stands. -/
theorem OwnB.keep {w w' : World} {B C : Nat} {v : Value} {xs : List Pl.Back} (h : OwnB w B v xs) (hb : Below C w w') (hC : ∀ k, v.ownBlock = some k → k < C) : OwnB w' B v xs := by
  refine ⟨h.1, ?_⟩
  rcases h.2 with hn | ⟨g, cap, cur, rfl, hg, hh, rest⟩
  · exact .inl hn
  · exact .inr ⟨g, cap, cur, rfl, hg, by rw [hb.block g (hC g rfl)]; exact hh, rest⟩
theorem cells_backs {w : World} {g off n : Nat} {bs : List Pl.Back} (hn : bs.length = n) (hc : ∀ i r, i < n → r < 6 → w.cell? ⟨g, off + i * 6 + r, none⟩ = ([.int .i64 (bs.getD i Pl.back0).id, .int .i64 (bs.getD i Pl.back0).addr, .int .i64 (bs.getD i Pl.back0).door, .int .i64 (bs.getD i Pl.back0).weight, .bool (bs.getD i Pl.back0).up, .bool (bs.getD i Pl.back0).drain] : List Value)[r]?) : Backs w (some ⟨g, off, none⟩) n bs :=
  ⟨hn, .inr ⟨g, off, rfl, fun i hi => ⟨hc i 0 hi (by omega), hc i 1 hi (by omega), hc i 2 hi (by omega), hc i 3 hi (by omega), hc i 4 hi (by omega), hc i 5 hi (by omega)⟩⟩⟩
theorem OwnB.read {w : World} {B : Nat} {v : Value} {bs : List Pl.Back} (h : OwnB w B v bs) : ∃ a n cap, v = .slice a n cap ∧ n ≤ cap ∧ Backs w a n bs := by
  have h0 := h
  obtain ⟨h1, h2⟩ := h
  rcases h2 with ⟨rfl, hn⟩ | ⟨g, cap, cur, rfl, hg, hh, hnc, hcap, hsz, htake⟩
  · exact ⟨none, 0, 0, rfl, Nat.le_refl _, hn, .inl rfl⟩
  · refine ⟨_, _, cap, rfl, hnc, cells_backs rfl fun i r hi hr => ?_⟩
    rw [← bkcells_at bs i r hi hr]
    have hl : i * 6 + r < (bkcells bs).length := by rw [bkcells_length]; omega
    have := World.ownsRow.cells (g := g) h0 rfl (i * 6 + r) _ (List.getElem?_eq_getElem hl)
    rw [Addr.add_lit] at this
    rw [List.getElem?_eq_getElem hl, ← this]
    congr 2
    omega

theorem Tryz.infoBack : (Tryz.prog.info? 34).map (fun i => (i.zero, i.size, i.bytes)) = some (some (.agg #[.int .i64 Pl.back0.id, .int .i64 Pl.back0.addr, .int .i64 Pl.back0.door, .int .i64 Pl.back0.weight, .bool Pl.back0.up, .bool Pl.back0.drain]), 6, 40) := by kernel_rfl

/-- append of servers to what the call owns: at the operation. -/
theorem wp_appB {w : World} {o : Oper} {a : Act} {K : Act → World → Prop} {Q : Exit → Act → World → Prop} (s x : Operand)
    (ho : o.op = .call { callee := .builtin .append, args := #[s, x], argTypes := #[24, 24] })
    (B : Nat) (v : Value) (ys : List Pl.Back) (hs : a.eval s = v) (hown : OwnB w B v ys) (ao : Option Addr) (m c : Nat) (xs : List Pl.Back) (hx : a.eval x = .slice ao m c) (hr : Backs w ao m xs)
    (hmax : ys.length + m ≤ 1099511627776) (hbase : B ≤ w.heap.size)
    (h : ∀ v' w', OwnB w' B v' (ys ++ xs) → w.grownBy w' v.ownBlock → Below B w w' → K (a.put o.dst v') w') : o.wp Tryz.prog a w K Q := by
  obtain ⟨i0, hi, hz0, hz1, hz2⟩ := info_parts Tryz.infoBack
  have hl : (bkcells xs).length = m * 6 := by rw [bkcells_length, hr.1]
  rcases hr.2 with h0 | ⟨b, off, rfl, hc⟩
  · subst h0
    obtain rfl : xs = [] := List.length_eq_zero_iff.1 hr.1
    cases ao with
    | none =>
      refine wp_append_own_none0 s x _ ho B _ i0 6 Tryz.underlying24 hi v _ (bkcells ys) c hs hown hx (h v w ?_ (World.grownBy.refl _ _) (Below.refl B w))
      simpa using hown
    | some ad =>
      refine wp_append_own w s x _ ho B _ i0 _ 6 40 Tryz.underlying24 hi hz0 hz1 hz2 rfl (by decide) v _ (bkcells ys) hs hown ad 0 c [] hx rfl (fun _ _ h => by simp at h) (fun _ h => by cases h) (by unfold maxLen; omega) (by omega) hbase ?_
      intro v' w' ho' hg _
      exact h v' w' (by unfold OwnB; simpa using ho') hg ((Below.refl B w).grown hg hbase fun k hk => (hown.lt k hk).1)
  · refine wp_append_own w s x _ ho B _ i0 _ 6 40 Tryz.underlying24 hi hz0 hz1 hz2 rfl (by decide) v _ (bkcells ys) hs hown ⟨b, off, none⟩ m c (bkcells xs) hx hl ?_ (bkcells_one xs) (by unfold maxLen; omega) (by omega) hbase ?_
    · intro j u hj
      have hlt : j < m * 6 := by have := (List.getElem?_eq_some_iff.1 hj).1; omega
      have hi6 : j / 6 < m := by omega
      have hat := bkcells_at xs (j / 6) (j % 6) (by rw [hr.1]; exact hi6) (Nat.mod_lt _ (by omega))
      rw [show j / 6 * 6 + j % 6 = j from by omega, hj] at hat
      obtain ⟨c0, c1, c2, c3, c4, c5⟩ := hc (j / 6) hi6
      have hm : j % 6 = 0 ∨ j % 6 = 1 ∨ j % 6 = 2 ∨ j % 6 = 3 ∨ j % 6 = 4 ∨ j % 6 = 5 := by omega
      rw [Addr.add_lit]
      rcases hm with hm | hm | hm | hm | hm | hm <;> rw [hm] at hat
      · rw [show off + j = off + j / 6 * 6 from by omega, c0]; exact hat.symm
      · rw [show off + j = off + j / 6 * 6 + 1 from by omega, c1]; exact hat.symm
      · rw [show off + j = off + j / 6 * 6 + 2 from by omega, c2]; exact hat.symm
      · rw [show off + j = off + j / 6 * 6 + 3 from by omega, c3]; exact hat.symm
      · rw [show off + j = off + j / 6 * 6 + 4 from by omega, c4]; exact hat.symm
      · rw [show off + j = off + j / 6 * 6 + 5 from by omega, c5]; exact hat.symm
    · intro v' w' ho' hg _
      refine h v' w' ?_ hg ((Below.refl B w).grown hg hbase fun k hk => (hown.lt k hk).1)
      unfold OwnB
      rw [List.length_append, hr.1, ← bkcells_append]
      exact ho'
theorem appB {w : World} {ops : Array Oper} {rest : List Oper} {o : Oper} {a : Act} {Q : Exit → Act → World → Prop} (hgd : o.guard = none) (s x : Operand)
    (ho : o.op = .call { callee := .builtin .append, args := #[s, x], argTypes := #[24, 24] })
    (B : Nat) (v : Value) (ys : List Pl.Back) (hs : a.eval s = v) (hown : OwnB w B v ys) (ao : Option Addr) (m c : Nat) (xs : List Pl.Back) (hx : a.eval x = .slice ao m c) (hr : Backs w ao m xs)
    (hmax : ys.length + m ≤ 1099511627776) (hbase : B ≤ w.heap.size)
    (h : ∀ v' w', OwnB w' B v' (ys ++ xs) → w.grownBy w' v.ownBlock → Below B w w' → wpList Tryz.prog ops Q rest (a.put o.dst v') w') : wpList Tryz.prog ops Q (o :: rest) a w :=
  wpList_plain hgd fun _ hK => wp_appB s x ho B v ys hs hown ao m c xs hx hr hmax hbase fun v' w' h1 h2 h3 => hK _ _ (h v' w' h1 h2 h3)
theorem Blk.backs1 {w : World} {g : Nat} {t : TypeId} {x : Pl.Back} (h : Blk w g t #[.int .i64 x.id, .int .i64 x.addr, .int .i64 x.door, .int .i64 x.weight, .bool x.up, .bool x.drain]) : Backs w (some ⟨g, 0, none⟩) 1 [x] :=
  cells_backs rfl fun i r hi hr => by
    obtain rfl : i = 0 := by omega
    rw [show 0 + 0 * 6 + r = r from by omega, h.cells]
    simp
theorem Blk.backs2 {w : World} {g : Nat} {t : TypeId} {x y : Pl.Back} (h : Blk w g t #[.int .i64 x.id, .int .i64 x.addr, .int .i64 x.door, .int .i64 x.weight, .bool x.up, .bool x.drain, .int .i64 y.id, .int .i64 y.addr, .int .i64 y.door, .int .i64 y.weight, .bool y.up, .bool y.drain]) : Backs w (some ⟨g, 0, none⟩) 2 [x, y] :=
  cells_backs rfl fun i r hi hr => by
    have hi' : i = 0 ∨ i = 1 := by omega
    have hr' : r = 0 ∨ r = 1 ∨ r = 2 ∨ r = 3 ∨ r = 4 ∨ r = 5 := by omega
    rw [h.cells]
    rcases hi' with rfl | rfl <;> rcases hr' with rfl | rfl | rfl | rfl | rfl | rfl <;> rfl
theorem Backs.take {w : World} {a : Option Addr} {n : Nat} {bs : List Pl.Back} (h : Backs w a n bs) (k : Nat) (hk : k ≤ n) : Backs w a k (bs.take k) := by
  refine ⟨by rw [List.length_take, h.1]; omega, ?_⟩
  rcases h.2 with h0 | ⟨b, off, rfl, hc⟩
  · exact .inl (by omega)
  · refine .inr ⟨b, off, rfl, fun i hi => ?_⟩
    have e : (bs.take k).getD i Pl.back0 = bs.getD i Pl.back0 := by simp [List.getD, hi]
    rw [e]
    exact hc i (by omega)
theorem Backs.drop {w : World} {b off n : Nat} {bs : List Pl.Back} (h : Backs w (some ⟨b, off, none⟩) n bs) (k : Nat) : Backs w (some ⟨b, off + k * 6, none⟩) (n - k) (bs.drop k) := by
  refine ⟨by rw [List.length_drop, h.1], ?_⟩
  rcases h.2 with h0 | ⟨b', off', hb, hc⟩
  · exact .inl (by omega)
  · cases hb
    refine .inr ⟨b, _, rfl, fun i hi => ?_⟩
    have e : (bs.drop k).getD i Pl.back0 = bs.getD (k + i) Pl.back0 := by simp [List.getD, List.getElem?_drop]
    rw [e]
    have := hc (k + i) (by omega)
    rwa [show off + (k + i) * 6 = off + k * 6 + i * 6 from by omega] at this
theorem Tryz.elemBacks : Tryz.prog.elem 24 = 34 := by kernel_rfl
theorem Tryz.sizeBack : ∀ w : World, (sizeOf 34).run Tryz.prog w = .ok 6 w := fun w => by kernel_rfl
/-- l[k:], under one name. -/
theorem slice_backs (b off n c k : Nat) (i : Int) (hi : i = k) (hk : k ≤ n) :
    ∃ AA : Option Addr, AA = (if c = k then some ⟨b, off, none⟩ else some ⟨b, off + k * 6, none⟩) ∧ ∀ W : World, (Instr.slice 24 (.slice (some ⟨b, off, none⟩) n c) (some (.int .i64 i)) none none).run Tryz.prog W = .ok (.slice AA (n - k) (c - k)) W := by
  subst hi
  refine ⟨_, rfl, fun W => ?_⟩
  rw [run_slice_l W 24 (some ⟨b, off, none⟩) n c (by rw [Tryz.elemBacks]; exact Tryz.underlying24) .i64 (k : Int) (by omega) (by omega), Tryz.elemBacks, Tryz.sizeBack]
  simp only [Result.andThen_ok, sliced, Int.toNat_natCast, Option.map_some, Addr.add_lit]
theorem Backs.tail {w : World} {b off n : Nat} {bs : List Pl.Back} (h : Backs w (some ⟨b, off, none⟩) n bs) (k c : Nat) (hc : n ≤ c) :
    Backs w (if c = k then some ⟨b, off, none⟩ else some ⟨b, off + k * 6, none⟩) (n - k) (bs.drop k) := by
  by_cases hk : c = k
  · rw [if_pos hk]
    have h0 : n - k = 0 := by omega
    exact ⟨by rw [List.length_drop, h.1], .inl h0⟩
  · rw [if_neg hk]
    exact h.drop k
end Go.Proofs.YtbjogkpepfgegaaGreatDoor
namespace Go.Proofs.YtbjogkpepfgegaaGreatDoor
open Go.RowKit
section
variable {κ : Type} {K : Keys κ} {w : World} {g : Nat} {l : List (Ent κ)} {clock : Nat}
/-- The entry of a new key. -/
theorem MapIs.entry (h : MapIs K w g l clock) (hF : K.Finds) (mt e : TypeId) (hm : Tryz.prog.underlying mt = some (.map K.t e)) (z : Value) (hz : (zeroValue e).run Tryz.prog w = .ok z w) (k : κ) (hk : K.look k l 0 = none) :
    (Instr.mapEntry mt (.map (some g)) (K.f k)).run Tryz.prog w = .ok (.tuple #[z, goInt clock]) (putMap K w g (l ++ [⟨k, z, clock⟩]) (clock + 1)) := by
  have hf := hF k l w
  rw [hk] at hf
  have hc := K.check false k w
  unfold Instr.mapEntry
  simp only [Sem.run_bind, run_underlying hm, Result.andThen_ok, MapKept.run_getObj_map h.here, hc, hf, hz, MapKept.run_setObj_map _ h.here]
  unfold putMap
  simp [Keys.ent]
theorem find_last {x : Ent κ} : ∀ (l : List (Ent κ)), (∀ y ∈ l, y.born < x.born) → ((l ++ [x]).map K.ent).toArray.findIdx? (fun e => (e.born : Int) == (x.born : Int)) = some l.length := by
  intro l hl
  rw [List.findIdx?_toArray, List.map_append, List.findIdx?_append, List.findIdx?_eq_none_iff.2]
  · simp [Keys.ent]
  · intro y hy
    obtain ⟨y', hy', rfl⟩ := List.mem_map.1 hy
    have := hl y' hy'
    simp only [Keys.ent, beq_eq_false_iff_ne, ne_eq]
    omega
/-- The value of the last entry. -/
theorem MapIs.fill {k : κ} {z : Value} (h : MapIs K w g (l ++ [⟨k, z, clock⟩]) (clock + 1)) (ho : ∀ y ∈ l, y.born < clock) (mt : TypeId) (v : Value) :
    (Instr.entryStore mt (.map (some g)) (goInt clock) v).run Tryz.prog w = .ok () (putMap K w g (l ++ [⟨k, v, clock⟩]) (clock + 1)) := by
  have hf := find_last (K := K) (x := ⟨k, z, clock⟩) l ho
  unfold Instr.entryStore
  simp only [Sem.run_bind, Result.andThen_ok, MapKept.run_getObj_map h.here, goInt, asInt, asIntOf, Sem.run_pure]
  dsimp only at hf
  have hA : (((l ++ [(⟨k, z, clock⟩ : Ent κ)]).map K.ent).toArray.modify l.length fun e => { e with val := v }) = ((l ++ [(⟨k, v, clock⟩ : Ent κ)]).map K.ent).toArray := by
    refine Array.ext_getElem? fun j => ?_
    rw [Array.getElem?_modify, List.getElem?_toArray, List.getElem?_toArray, List.map_append, List.map_append]
    rcases Nat.lt_trichotomy j l.length with hj | hj | hj
    · rw [if_neg (by omega), List.getElem?_append_left (by simpa using hj), List.getElem?_append_left (by simpa using hj)]
    · subst hj
      simp [Keys.ent]
    · rw [if_neg (by omega), List.getElem?_eq_none (by simp; omega), List.getElem?_eq_none (by simp; omega)]
  simp only [hf, MapKept.run_setObj_map _ h.here, hA]
  rfl
end
end Go.Proofs.YtbjogkpepfgegaaGreatDoor
namespace Go.Proofs.YtbjogkpepfgegaaGreatDoor
namespace Pl
theorem best_down {sc : Back → Int} {l : List Back} {i : Nat} {z x y : Back} (ha : Apart l) (hz : l[i]? = some z) (hl : best sc l = some x) (hne : x ≠ z) (hy : y.up = false) : best sc (l.set i y) = some x := by
  obtain ⟨hxl, hxe⟩ := best_mem hl
  have hx : x ∈ l.set i y := by
    obtain ⟨j, hj⟩ := List.mem_iff_getElem?.1 hxl
    have hij : i ≠ j := fun e => by subst e; rw [hz] at hj; cases hj; exact hne rfl
    exact List.mem_iff_getElem?.2 ⟨j, by rw [List.getElem?_set_ne hij]; exact hj⟩
  have hb : ∀ u ∈ l, Elig u → ¬ Beats sc x u := by
    rcases best_spec sc l with ⟨h0, _⟩ | ⟨x', _, h1, _, h2⟩
    · rw [hl] at h0; cases h0
    · rw [hl] at h1; cases h1; exact h2
  rcases best_spec sc (l.set i y) with ⟨_, hno⟩ | ⟨u, hu, hbu, heu, hbu2⟩
  · exact absurd hxe (hno x hx)
  · have hul : u ∈ l := by
      rcases List.mem_or_eq_of_mem_set hu with h | h
      · exact h
      · subst h
        unfold Elig at heu
        rw [hy] at heu
        cases heu.1
    have h1 := hb u hul heu
    have h2 := hbu2 x hx hxe
    unfold Beats at h1 h2
    have h3 : x.id = u.id := by omega
    rw [hbu, ha.eq hxl hul h3]
theorem best_down_none {sc : Back → Int} {l : List Back} {i : Nat} {y : Back} (hl : best sc l = none) (hy : y.up = false) : best sc (l.set i y) = none := by
  have hno : ∀ u ∈ l, ¬ Elig u := by
    rcases best_spec sc l with ⟨_, h⟩ | ⟨x, _, h, _⟩
    · exact h
    · rw [hl] at h; cases h
  rcases best_spec sc (l.set i y) with ⟨h, _⟩ | ⟨u, hu, _, heu, _⟩
  · exact h
  · rcases List.mem_or_eq_of_mem_set hu with h | h
    · exact absurd heu (hno u h)
    · subst h
      unfold Elig at heu
      rw [hy] at heu
      cases heu.1
end Pl
end Go.Proofs.YtbjogkpepfgegaaGreatDoor
namespace Go.Proofs.YtbjogkpepfgegaaGreatDoor
open Go.RowKit
theorem pick_any (c n : Int) (w : World) (h0 : -9223372036854775808 ≤ c ∧ c ≤ 9223372036854775807) (hn : 0 < n ∧ n ≤ 100000) :
    Calls Tryz.prog 7 #[.int .i64 c, .int .i64 n] w fun e w' => ∃ k : Int, e = .returned (.int .i64 k) ∧ (0 ≤ k ∧ k < n) ∧ w = w' := by
  have hnz : ¬ n = 0 := by omega
  by_cases hc : c < 0
  · have e1 : IntKind.i64.wrap (c + 1) = c + 1 := IntWalk.i64_in _ (by omega)
    have e2 : IntKind.i64.wrap (-(c + 1)) = -(c + 1) := IntWalk.i64_in _ (by omega)
    have e3 : IntKind.i64.wrap ((-(c + 1)).tmod n) = (-(c + 1)) % n := by
      rw [Int.tmod_eq_emod_of_nonneg (by omega)]
      have h1 := Int.emod_nonneg (-(c + 1)) (show n ≠ 0 by omega)
      have h2 := Int.emod_lt_of_pos (-(c + 1)) hn.1
      exact IntWalk.i64_in _ (by omega)
    have HB := Lib.hid (show 0 ≤ -((c + 1).tmod n) ∧ -((c + 1).tmod n) < n by
      rw [← Int.neg_tmod, Int.tmod_eq_emod_of_nonneg (by omega)]
      exact ⟨Int.emod_nonneg _ (by omega), Int.emod_lt_of_pos _ hn.1⟩)
    go_enter Tryz.func7, Tryz.ntmps7
    go_wp2_with fail
    go_ret
    exact ⟨_, rfl, HB.out, rfl⟩
  · have e3 : IntKind.i64.wrap (c.tmod n) = c % n := by
      rw [Int.tmod_eq_emod_of_nonneg (by omega)]
      have h1 := Int.emod_nonneg c (show n ≠ 0 by omega)
      have h2 := Int.emod_lt_of_pos c hn.1
      exact IntWalk.i64_in _ (by omega)
    have HB := Lib.hid (show 0 ≤ c % n ∧ c % n < n from ⟨Int.emod_nonneg _ (by omega), Int.emod_lt_of_pos _ hn.1⟩)
    go_enter Tryz.func7, Tryz.ntmps7
    go_wp2_with fail
    go_ret
    exact ⟨_, rfl, HB.out, rfl⟩
end Go.Proofs.YtbjogkpepfgegaaGreatDoor
