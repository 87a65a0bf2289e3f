/- Lemmas of this seat, bound together: Ip4s OpenS OpenB. Conditions: as each lemma states them. -/
import Derived.Test.YtbjogkpepfgegaaDoorK16
import Derived.Test.YtbjogkpepfgegaaDoorK02
import Derived.Test.YtbjogkpepfgegaaDoorK00
import Derived.Test.YtbjogkpepfgegaaDoorK13
import Derived.Test.YtbjogkpepfgegaaDoorK07
import Derived.Deep.Slices
namespace Go.Proofs.YtbjogkpepfgegaaDoor
open Go.RowKit
namespace Pl
theorem take_getD4 (xs : List Int) : ∀ n, n ≤ xs.length → xs.take n = (List.range n).map (fun i => xs.getD i 0)
  | 0, _ => by simp
  | n + 1, h => by
    rw [take_snoc xs n (by omega), take_getD4 xs n (by omega), List.range_succ, List.map_append]
    rfl
theorem cat2 {a b : Int} (hb : 0 ≤ b ∧ b ≤ 255) {x : Int} : (x / 256 = a ∧ x % 256 = b) ↔ a * 256 + b = x := by omega
theorem four_at4 {xs : List Int} (hb : IsB xs) (i : Nat) : four (at4 xs i) = [xs.getD i 0, xs.getD (i + 1) 0, xs.getD (i + 2) 0, xs.getD (i + 3) 0] := by
  have h0 := hb.getD i
  have h1 := hb.getD (i + 1)
  have h2 := hb.getD (i + 2)
  have h3 := hb.getD (i + 3)
  unfold four at4
  generalize xs.getD i 0 = x0 at *
  generalize xs.getD (i + 1) 0 = x1 at *
  generalize xs.getD (i + 2) 0 = x2 at *
  generalize xs.getD (i + 3) 0 = x3 at *
  simp only [List.cons.injEq, and_true]
  omega
/-- The numbers that bytes give, written. -/
theorem enc4_list {xs : List Int} (hb : IsB xs) (h0 : 20 ≤ xs.length) (C : Int) :
    head4 (at4 xs 12) (at4 xs 16) (xs.getD 8 0) (xs.getD 9 0) (at2 xs 4) ((xs.drop 20).length : Nat) C ++ xs.drop 20 =
      [69, 0, (xs.length : Int) / 256, (xs.length : Int) % 256, xs.getD 4 0, xs.getD 5 0, 64, 0, xs.getD 8 0, xs.getD 9 0, C / 256, C % 256, xs.getD 12 0, xs.getD 13 0, xs.getD 14 0, xs.getD 15 0, xs.getD 16 0, xs.getD 17 0, xs.getD 18 0, xs.getD 19 0] ++ xs.drop 20 := by
  have hl : (20 : Int) + ((xs.drop 20).length : Nat) = xs.length := by rw [List.length_drop]; omega
  have h4 := (cat2 (a := xs.getD 4 0) (x := at2 xs 4) (hb.getD 5)).2 rfl
  unfold head4
  rw [four_at4 hb 12, four_at4 hb 16]
  unfold first4
  rw [hl, h4.1, h4.2]
  rfl
theorem list20 {xs : List Int} (h0 : 20 ≤ xs.length) : xs = [xs.getD 0 0, xs.getD 1 0, xs.getD 2 0, xs.getD 3 0, xs.getD 4 0, xs.getD 5 0, xs.getD 6 0, xs.getD 7 0, xs.getD 8 0, xs.getD 9 0, xs.getD 10 0, xs.getD 11 0, xs.getD 12 0, xs.getD 13 0, xs.getD 14 0, xs.getD 15 0, xs.getD 16 0, xs.getD 17 0, xs.getD 18 0, xs.getD 19 0] ++ xs.drop 20 := by
  have ht := List.take_append_drop 20 xs
  rw [take_getD4 xs 20 h0] at ht
  exact ht.symm
theorem enc4_iff {xs : List Int} (hb : IsB xs) (h0 : 20 ≤ xs.length) (h1 : xs.length ≤ 340) :
    enc4 (at4 xs 12) (at4 xs 16) (xs.getD 8 0) (xs.getD 9 0) (at2 xs 4) (xs.drop 20) = xs ↔ (Shape4 xs ∧ at2 xs 10 = sum4 (at4 xs 12) (at4 xs 16) (xs.getD 8 0) (xs.getD 9 0) (at2 xs 4) ((xs.drop 20).length : Nat)) := by
  have hs := sum4_bd (at4 xs 12) (at4 xs 16) (xs.getD 8 0) (xs.getD 9 0) (at2 xs 4) ((xs.drop 20).length : Nat)
  unfold enc4
  generalize sum4 (at4 xs 12) (at4 xs 16) (xs.getD 8 0) (xs.getD 9 0) (at2 xs 4) ((xs.drop 20).length : Nat) = C at *
  rw [enc4_list hb h0 C]
  conv => lhs; rhs; rw [list20 h0]
  rw [List.append_cancel_right_eq]
  simp only [List.cons.injEq, and_true, true_and]
  unfold Shape4
  have B := fun i => hb.getD i
  have b0 := B 0
  have b1 := B 1
  have b6 := B 6
  have b7 := B 7
  have e0 := cat2 (x := 17664) (a := xs.getD 0 0) b1
  have e2 := cat2 (x := xs.length) (a := xs.getD 2 0) (B 3)
  have e6 := cat2 (x := 16384) (a := xs.getD 6 0) b7
  have e10 := cat2 (x := C) (a := xs.getD 10 0) (B 11)
  show _ ↔ (_ ∧ xs.getD 0 0 * 256 + xs.getD 1 0 = 17664 ∧ xs.getD 2 0 * 256 + xs.getD 3 0 = xs.length ∧ xs.getD 6 0 * 256 + xs.getD 7 0 = 16384) ∧ xs.getD 10 0 * 256 + xs.getD 11 0 = C
  rw [← e0, ← e2, ← e6, ← e10]
  constructor
  · rintro ⟨a0, a1, a2, a3, a6, a7, a10, a11⟩
    exact ⟨⟨⟨h0, h1⟩, ⟨by omega, by omega⟩, ⟨a2, a3⟩, ⟨by omega, by omega⟩⟩, a10, a11⟩
  · rintro ⟨⟨_, ⟨a0, a1⟩, ⟨a2, a3⟩, ⟨a6, a7⟩⟩, a10, a11⟩
    exact ⟨by omega, by omega, a2, a3, by omega, by omega, a10, a11⟩
theorem patch4_iff {xs : List Int} (hb : IsB xs) (h0 : 20 ≤ xs.length) (h1 : xs.length ≤ 340) :
    patch4 (enc4 (at4 xs 12) (at4 xs 16) (xs.getD 8 0) (xs.getD 9 0) (at2 xs 4) (xs.drop 20)) xs = xs ↔ Shape4 xs := by
  unfold enc4
  rw [enc4_list hb h0 _]
  have hp : (xs.drop 10).take 2 = [xs.getD 10 0, xs.getD 11 0] := by
    conv => lhs; rw [list20 h0]
    rfl
  unfold patch4
  rw [hp]
  show [69, 0, (xs.length : Int) / 256, (xs.length : Int) % 256, xs.getD 4 0, xs.getD 5 0, 64, 0, xs.getD 8 0, xs.getD 9 0, xs.getD 10 0, xs.getD 11 0, xs.getD 12 0, xs.getD 13 0, xs.getD 14 0, xs.getD 15 0, xs.getD 16 0, xs.getD 17 0, xs.getD 18 0, xs.getD 19 0] ++ xs.drop 20 = xs ↔ _
  conv => lhs; rhs; rw [list20 h0]
  rw [List.append_cancel_right_eq]
  simp only [List.cons.injEq, and_true, true_and]
  unfold Shape4
  have B := fun i => hb.getD i
  have b0 := B 0
  have b1 := B 1
  have b6 := B 6
  have b7 := B 7
  have e0 := cat2 (x := 17664) (a := xs.getD 0 0) b1
  have e2 := cat2 (x := xs.length) (a := xs.getD 2 0) (B 3)
  have e6 := cat2 (x := 16384) (a := xs.getD 6 0) b7
  show _ ↔ (_ ∧ xs.getD 0 0 * 256 + xs.getD 1 0 = 17664 ∧ xs.getD 2 0 * 256 + xs.getD 3 0 = xs.length ∧ xs.getD 6 0 * 256 + xs.getD 7 0 = 16384)
  rw [← e0, ← e2, ← e6]
  constructor
  · rintro ⟨a0, a1, a2, a3, a6, a7⟩
    exact ⟨⟨h0, h1⟩, ⟨by omega, by omega⟩, ⟨a2, a3⟩, ⟨by omega, by omega⟩⟩
  · rintro ⟨_, ⟨a0, a1⟩, ⟨a2, a3⟩, ⟨a6, a7⟩⟩
    exact ⟨by omega, by omega, a2, a3, by omega, by omega⟩
theorem ok4_iff {s d t k i : Int} : ok4b s d t k i = true ↔ Ok4 s d t k i := ⟨ok4b_yes, fun h => by
  cases he : ok4b s d t k i with
  | true => rfl
  | false => exact absurd h (ok4b_no he)⟩
end Pl
theorem fault4_zero {s d t k i : Int} {n : Nat} (h : fault4 s d t k i n = 0) : Pl.Ok4 s d t k i ∧ n ≤ 320 := by
  unfold fault4 at h
  by_cases hk : ok4b s d t k i = true
  · rw [if_pos hk] at h
    by_cases hn : n ≤ 320
    · exact ⟨ok4b_yes hk, hn⟩
    · rw [if_neg hn] at h; omega
  · rw [if_neg hk] at h; omega
theorem check4p_any (s d t k i : Int) (a : Option Addr) (n c : Nat) (w : World) :
    Calls Tryd.prog 48 #[pk4 s d t k i (.slice a n c)] w fun e w' => e = .returned (erv (fault4 s d t k i n)) ∧ Ext w w' := by
  unfold fault4
  by_cases hk : ok4b s d t k i = true
  · rw [if_pos hk]
    by_cases hn : n ≤ 320
    · rw [if_pos hn]
      exact check4_ok s d t k i a n c w (ok4b_yes hk) hn
    · rw [if_neg hn]
      exact check4_full s d t k i a n c w (ok4b_yes hk) (by omega)
  · rw [if_neg hk]
    exact check4_range s d t k i a n c w (fun h => hk (Pl.ok4_iff.2 h))
theorem encode4_err (s d t k i : Int) (a : Option Addr) (n c : Nat) (w : World) (h : fault4 s d t k i n ≠ 0) :
    Calls Tryd.prog 37 #[pk4 s d t k i (.slice a n c)] w fun e w' => e = .returned (.tuple #[.slice none 0 0, erv (fault4 s d t k i n)]) ∧ Ext w w' := by
  have E0 : Ext w (w.alloc (.cells #[.int .i64 s, .int .i64 d, .int .i64 t, .int .i64 k, .int .i64 i, .slice a n c] 42)) := (Ext.refl w).alloc _
  have KEY := Lib.hid (fun W => check4p_any s d t k i a n c W)
  obtain ⟨E, hE⟩ : ∃ E, fault4 s d t k i n = E := ⟨_, rfl⟩
  rw [hE] at KEY h ⊢
  have he := erv_ne h
  rw [he] at KEY
  have HE := Lib.hid he
  clear hE h he
  unfold pk4
  unfold errv at KEY
  go_enter Tryd.func37, Tryd.ntmps37
  go_wp2_with fail
  refine (KEY.out _).mono ?_
  rintro e W2 ⟨rfl, q2⟩
  have E2 := E0.trans q2
  go_wp2_with fail
  go_ret2
  exact ⟨by rw [HE.out]; rfl, E2⟩
/-- Decode, exactly. -/
theorem decode4_all (a : Option Addr) (n c : Nat) (xs : List Int) (w : World) (hr : Ints .u8 w a n xs) (hb : Pl.IsB xs) (hnc : n ≤ c) :
    Calls Tryd.prog 38 #[.slice a n c] w fun e w' =>
      (¬ Pl.Shape4 xs → e = .returned (.tuple #[pk4 0 0 0 0 0 (.slice none 0 0), errv 5])) ∧
      (Pl.Shape4 xs → Pl.at2 xs 10 ≠ Pl.sum4 (Pl.at4 xs 12) (Pl.at4 xs 16) (xs.getD 8 0) (xs.getD 9 0) (Pl.at2 xs 4) ((xs.drop 20).length : Nat) → e = .returned (.tuple #[pk4 0 0 0 0 0 (.slice none 0 0), errv 6])) ∧
      (Pl.Shape4 xs → Pl.at2 xs 10 = Pl.sum4 (Pl.at4 xs 12) (Pl.at4 xs 16) (xs.getD 8 0) (xs.getD 9 0) (Pl.at2 xs 4) ((xs.drop 20).length : Nat) → ∃ v, e = .returned (.tuple #[pk4 (Pl.at4 xs 12) (Pl.at4 xs 16) (xs.getD 8 0) (xs.getD 9 0) (Pl.at2 xs 4) v, .nilIface]) ∧ Own w' w.heap.size v (xs.drop 20)) ∧ Ext w w' := by
  have hl := hr.len
  by_cases h0 : n < 20 ∨ 340 < n
  · refine (decode4_short a n c w h0).mono fun e w' ⟨he, hw⟩ => ⟨fun _ => he, fun hS => absurd hS.1 (by omega), fun hS => absurd hS.1 (by omega), hw⟩
  · obtain ⟨b, off, rfl, hbl, _⟩ := hr.at (by omega)
    refine (decode4_core b off n c xs w _ _ _ _ _ _ hr hbl hnc (by omega) (by omega) (Pl.ok4_of hb) rfl rfl rfl rfl rfl rfl hb).mono fun e w' h => ?_
    obtain ⟨h1, h2, h3, h4⟩ := h
    have hE := Pl.enc4_iff hb (by omega) (by omega)
    have hP := Pl.patch4_iff hb (by omega) (by omega)
    refine ⟨fun hS => h3 (fun he => hS (hE.1 he).1) (fun hp => hS (hP.1 hp)), fun hS hne => h2 (fun he => hne (hE.1 he).2) (hP.2 hS), fun hS heq => h1 (hE.2 ⟨hS, heq⟩), h4⟩
end Go.Proofs.YtbjogkpepfgegaaDoor
namespace Go.Proofs.YtbjogkpepfgegaaDoor
open Go.ChangeShapes Go.WideShapes Go.ChangeAt Go.RowKit

/-- A segment and where its bytes lie. -/
structure Sd where
  s : Sg
  a : Option Addr
  n : Nat
  c : Nat
  xs : List Int
def Sd.d (x : Sd) : Value := .slice x.a x.n x.c
instance : Inhabited Sd := ⟨⟨⟨0, 0, 0, 0, 0, 0, 0⟩, none, 0, 0, []⟩⟩
def Sd.Is (w : World) (x : Sd) : Prop := IsBytes w x.a x.n x.c x.xs ∧ (x.a = none → x.c = 0) ∧ IsInt x.s.kind ∧ IsInt x.s.frm ∧ IsInt x.s.to ∧ IsInt x.s.seq ∧ IsInt x.s.ack ∧ IsInt x.s.flags ∧ IsInt x.s.win
/-- Segments that came in. -/
def IsSegs (w : World) (a : Option Addr) (n c : Nat) (ss : List Sd) : Prop :=
  ss.length = n ∧ n ≤ c ∧ c ≤ maxLen ∧ (n = 0 ∨ ∃ b off, a = some ⟨b, off, none⟩ ∧ ∀ i, i < n → (ss.getD i default).Is w ∧ ∀ j, j < 8 → w.cell? ⟨b, off + (i * 8 + j), none⟩ = ((ss.getD i default).s.cells (ss.getD i default).d)[j]?)

section
variable {H : Type} {enc : TypeId × Value → H} {W : World}
theorem Tryd.cellsIntS : Tryd.prog.cellsOf 3 = 1 := by kernel_rfl
theorem Tryd.cellsBytes : Tryd.prog.cellsOf 27 = 1 := by kernel_rfl
theorem Tryd.cellsSeg : Tryd.prog.cellsOf 38 = 8 := by kernel_rfl
/-- A slice of bytes that came in; nil has no room. -/
theorem open_bytesz {a : Option Addr} {n c : Nat} {d : DataW H} {p : List MemPlace}
    (h : DataW.Trod enc Tryd.prog W 0 (fun _ => true) true 27 (.slice a n c) d p) : ∃ xs, IsBytes W a n c xs ∧ (a = none → c = 0) := by
  obtain ⟨fuel, hf⟩ := h
  obtain ⟨a', l, k, xs, hv, hb, hn⟩ := open_field_bytes rfl (by simpa [Value.cells] using hf)
  obtain ⟨rfl, rfl, rfl⟩ : a = a' ∧ n = l ∧ c = k := by simpa using hv
  exact ⟨xs, hb, hn⟩
/-- Numbers that came in. -/
def IsIntsl (w : World) (a : Option Addr) (n c : Nat) (xs : List Int) : Prop := Ints .i64 w a n xs ∧ (∀ x ∈ xs, IsInt x) ∧ n ≤ c ∧ c ≤ maxLen
theorem open_intsl {a : Option Addr} {n c : Nat} {d : DataW H} {p : List MemPlace}
    (h : DataW.Trod enc Tryd.prog W 0 (fun _ => true) true 160 (.slice a n c) d p) : ∃ xs, IsIntsl W a n c xs := by
  obtain ⟨fuel, hf⟩ := h
  rcases open_ints Tryd.underlying160 Tryd.underlying3 (by kernel_rfl) hf with ⟨hcs, _⟩ | ⟨x, l, c', zs, hcs, _, hl, hm, hz, _, hcell, hwz⟩
  · simp [Value.cells] at hcs
    obtain ⟨rfl, rfl, rfl⟩ := hcs
    exact ⟨[], Ints.nil, (by simp), Nat.le_refl _, Nat.zero_le _⟩
  · simp [Value.cells] at hcs
    obtain ⟨rfl, rfl, rfl⟩ := hcs
    exact ⟨zs.take n, ints_of_cells hl (by simpa using hz) hcell, fun y hy => wf_i64 (hwz y (List.mem_of_mem_take hy)), hl, hm⟩
end

theorem IsBytes.ext {w w' : World} {a : Option Addr} {n c : Nat} {xs : List Int} (h : IsBytes w a n c xs) (k : Ext w w') : IsBytes w' a n c xs := ⟨h.1.ext k, h.2.1, h.2.2.1, h.2.2.2⟩
/-- One of them, in a later world. -/
theorem IsSegs.at {w w' : World} {a : Option Addr} {n c : Nat} {ss : List Sd} (h : IsSegs w a n c ss) (k : Ext w w') (hn : 0 < n) :
    ∃ b off, a = some ⟨b, off, none⟩ ∧ b < w.heap.size ∧ ∀ i, i < n → (ss.getD i default).Is w' ∧ ∀ j, j < 8 → w'.cell? ⟨b, off + (i * 8 + j), none⟩ = ((ss.getD i default).s.cells (ss.getD i default).d)[j]? := by
  obtain ⟨_, _, _, h0 | ⟨b, off, rfl, hc⟩⟩ := h
  · omega
  have hb : b < w.heap.size := by
    have := (hc 0 hn).2 0 (by omega)
    exact World.block_lt_of_cell? w _ (this.trans (by simp [Sg.cells]; rfl))
  refine ⟨b, off, rfl, hb, fun i hi => ⟨⟨(hc i hi).1.1.ext k, (hc i hi).1.2⟩, fun j hj => ?_⟩⟩
  rw [World.cell?_of_block (Below.block k b hb)]
  exact (hc i hi).2 j hj
/-- A whole segment, loaded. -/
theorem load_seg {w : World} {b off : Nat} (s : Sg) (d : Value) (h : ∀ j, j < 8 → w.cell? ⟨b, off + j, none⟩ = (s.cells d)[j]?) :
    (Instr.loadAt 38 (.pointer (some ⟨b, off, none⟩))).run Tryd.prog w = .ok (.agg (s.cells d)) w := by
  have := run_loadAt_mid (P := Tryd.prog) w b off 38 (s.cells d).toList _ (fun j v hv => by
    rw [Array.getElem?_toList] at hv
    rw [h j (by have := (Array.getElem?_eq_some_iff.1 hv).1; simpa [Sg.cells] using this)]; exact hv) Tryd.underlying38 rfl Tryd.sizeSeg
  rw [Array.toArray_toList] at this
  exact this
end Go.Proofs.YtbjogkpepfgegaaDoor
namespace Go.Proofs.YtbjogkpepfgegaaDoor
open Go.ChangeShapes Go.WideShapes Go.ChangeAt Go.RowKit

/-- Truths that came in. -/
def IsBools (w : World) (a : Option Addr) (n : Nat) (bs : List Bool) : Prop :=
  bs.length = n ∧ n ≤ maxLen ∧ (n = 0 ∨ ∃ b off, a = some ⟨b, off, none⟩ ∧ b < w.heap.size ∧ ∀ i, i < n → w.cell? ⟨b, off + i, none⟩ = some (.bool (bs.getD i false)))
section
theorem Tryd.cellsTruth : Tryd.prog.cellsOf 4 = 1 := by kernel_rfl
variable {H : Type} {enc : TypeId × Value → H} {W : World}
theorem open_cell_truth {n : Nat} {c : Value} {y : Option (DataW H × List MemPlace)} (hy : y.isSome = true) (h : DataW.trod enc Tryd.prog W 0 (fun _ => true) true n 4 [c] = y) : ∃ x, c = .bool x := by
  obtain ⟨y, rfl⟩ := Option.isSome_iff_exists.1 hy
  obtain ⟨x, hx, _⟩ := DataW.trod_bool Tryd.underlying4 h
  exact ⟨x, by simpa using hx⟩
set_option maxRecDepth 100000 in
/-- A segment that came in. -/
theorem open_seg {v : Value} {d : DataW H} {p : List MemPlace} {base : Nat} (hv : Value.okWide Tryd.prog W .any base 38 v) (h : DataW.Trod enc Tryd.prog W 0 (fun _ => true) true 38 v d p) :
    ∃ (s : Sg) (a : Option Addr) (l c : Nat) (xs : List Int), v = s.v (.slice a l c) ∧ Sd.Is W ⟨s, a, l, c, xs⟩ := by
  obtain ⟨cs, rfl, hsz⟩ := okWide_struct Tryd.underlying38 hv
  obtain ⟨l⟩ := cs
  match l, hsz.trans Tryd.cellsSeg with
  | [c0, c1, c2, c3, c4, c5, c6, c7], _ =>
    obtain ⟨fuel, hf⟩ := h
    obtain ⟨xs, n, _, _, _, hlen, hg⟩ := DataW.trod_struct Tryd.underlying38 hf
    obtain ⟨x0, rfl, i0⟩ := open_field_int Tryd.underlying3 (isSome_of_len (j := 0) hlen (by simp)) (by simpa [Value.cells, Tryd.cellsIntS] using hg 0 _ rfl)
    obtain ⟨x1, rfl, i1⟩ := open_field_int Tryd.underlying3 (isSome_of_len (j := 1) hlen (by simp)) (by simpa [Value.cells, Tryd.cellsIntS] using hg 1 _ rfl)
    obtain ⟨x2, rfl, i2⟩ := open_field_int Tryd.underlying3 (isSome_of_len (j := 2) hlen (by simp)) (by simpa [Value.cells, Tryd.cellsIntS] using hg 2 _ rfl)
    obtain ⟨x3, rfl, i3⟩ := open_field_int Tryd.underlying3 (isSome_of_len (j := 3) hlen (by simp)) (by simpa [Value.cells, Tryd.cellsIntS] using hg 3 _ rfl)
    obtain ⟨x4, rfl, i4⟩ := open_field_int Tryd.underlying3 (isSome_of_len (j := 4) hlen (by simp)) (by simpa [Value.cells, Tryd.cellsIntS] using hg 4 _ rfl)
    obtain ⟨x5, rfl, i5⟩ := open_field_int Tryd.underlying3 (isSome_of_len (j := 5) hlen (by simp)) (by simpa [Value.cells, Tryd.cellsIntS] using hg 5 _ rfl)
    obtain ⟨x6, rfl, i6⟩ := open_field_int Tryd.underlying3 (isSome_of_len (j := 6) hlen (by simp)) (by simpa [Value.cells, Tryd.cellsIntS] using hg 6 _ rfl)
    obtain ⟨a', m', k', ys, rfl, hy, hn⟩ := open_field_bytes (isSome_of_len (j := 7) hlen (by simp)) (by simpa [Value.cells, Tryd.cellsBytes] using hg 7 _ rfl)
    exact ⟨⟨x0, x1, x2, x3, x4, x5, x6⟩, a', m', k', ys, rfl, hy, hn, i0, i1, i2, i3, i4, i5, i6⟩
end
/-- One of them, in a later world. -/
theorem IsBools.at {w w' : World} {a : Option Addr} {n : Nat} {bs : List Bool} (h : IsBools w a n bs) (k : Ext w w') (hn : 0 < n) :
    ∃ b off, a = some ⟨b, off, none⟩ ∧ b < w.heap.size ∧ ∀ i, i < n → w'.cell? ⟨b, off + i, none⟩ = some (.bool (bs.getD i false)) := by
  obtain ⟨_, _, h0 | ⟨b, off, rfl, hb, hc⟩⟩ := h
  · omega
  exact ⟨b, off, rfl, hb, fun i hi => (World.cell?_of_block (Below.block k b hb)).trans (hc i hi)⟩
end Go.Proofs.YtbjogkpepfgegaaDoor
