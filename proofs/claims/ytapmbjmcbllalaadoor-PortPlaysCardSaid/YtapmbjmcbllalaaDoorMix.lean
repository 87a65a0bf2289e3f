/- The contract of the mixer's mix: numbers mixed into it. Conditions: as each theorem states them. -/
import Derived.Test.YtapmbjmcbllalaaDoorSix
import Derived.Test.YtapmbjmcbllalaaDoorPickPl
namespace Go.Proofs.YtapmbjmcbllalaaDoor
open Go.RowKit
namespace Pl
def mix1 (m n : Int) : Int := (m * 69069 + n + 1) % 2147483648
def mix (m : Int) (l : List Int) : Int := l.foldl mix1 m
theorem mix_snoc (m : Int) (l : List Int) (x : Int) : mix m (l ++ [x]) = mix1 (mix m l) x := by simp [mix]
theorem mix_append (m : Int) (l k : List Int) : mix m (l ++ k) = mix (mix m l) k := by simp [mix]
theorem mix_bd (m : Int) (l : List Int) (h : 0 ≤ m ∧ m < 2147483648) : 0 ≤ mix m l ∧ mix m l < 2147483648 := by
  refine snoc_ind (P := fun l => 0 ≤ mix m l ∧ mix m l < 2147483648) h (fun l a _ => ?_) l
  rw [mix_snoc]
  unfold mix1
  omega
end Pl

/-- Only block g has turned (and what is new). -/
theorem only_set {a w : World} {g : Nat} (h : a.grownBy w (some g)) (j : Nat) (u : Value) : a.grownBy (w.setCell ⟨g, j, none⟩ u) (some g) :=
  ⟨h.os, h.tape, h.output, by simpa [World.setCell] using h.size, fun i hi hne => (Below.heap_setCell w ⟨g, j, none⟩ u i (by rintro rfl; exact hne rfl)).trans (h.block i hi hne)⟩
theorem Blk.only {w w' : World} {g g' : Nat} {t : TypeId} {cs : Array Value} (h : Blk w g t cs) (hb : w.grownBy w' (some g')) (hg : g ≠ g') : Blk w' g t cs := (hb.block g h.lt (fun e => hg (Option.some.inj e))).trans h
theorem Ints.only {k : IntKind} {w w' : World} {a : Option Addr} {n : Nat} {xs : List Int} {g : Nat} (h : Ints k w a n xs) (hb : w.grownBy w' (some g)) (hg : ∀ p, a = some p → p.block ≠ g) : Ints k w' a n xs := by
  refine ⟨h.1, ?_⟩
  rcases h.2 with h0 | ⟨b, off, rfl, hc⟩
  · exact .inl h0
  · refine .inr ⟨b, off, rfl, fun i hi => ?_⟩
    have := hc i hi
    rw [World.cell?_of_block (hb.block b (World.block_lt_of_cell? w _ this) (fun e => hg _ rfl (Option.some.inj e)))]
    exact this
theorem Below.only {B : Nat} {a w w' : World} {g : Nat} (h : Below B a w) (hb : w.grownBy w' (some g)) (hB : B ≤ w.heap.size) (hg : B ≤ g) : Below B a w' := h.grown hb hB fun _ e => by rw [← Option.some.inj e]; exact hg

theorem words_at {l : List Int} (h : words l = true) (k : Nat) : 0 ≤ l.getD k 0 ∧ l.getD k 0 ≤ 65535 := by
  by_cases hk : k < l.length
  · by_cases hb : 0 ≤ l.getD k 0 ∧ l.getD k 0 ≤ 65535
    · exact hb
    · rw [words_bad l k hk hb] at h; cases h
  · rw [List.getD_eq_getElem?_getD, List.getElem?_eq_none (by omega)]; simp

set_option maxHeartbeats 800000 in
theorem mix_any (g : Nat) (t : TypeId) (m : Int) (a : Option Addr) (n c : Nat) (xs : List Int) (w : World) (hp : Blk w g t #[.int .i64 m])
    (hm : 0 ≤ m ∧ m < 2147483648) (hx : Ints .i64 w a n xs) (hr : words xs = true) (hg : ∀ p, a = some p → p.block ≠ g) (hn : n ≤ 65536) :
    Calls Tryd.prog 37 #[.pointer (some ⟨g, 0, none⟩), .slice a n c] w fun e w' => e = .returned (.tuple #[]) ∧ Blk w' g t #[.int .i64 (Pl.mix m xs)] ∧ w.grownBy w' (some g) := by
  have HR := Lib.hid hr
  have HX := Lib.hid hx
  have HG := Lib.hid hg
  have HL := Lib.hid hx.len
  clear hr hx hg
  go_enter Tryd.func37, Tryd.ntmps37
  go_wp2
  go_loopw [8] (fun i wr => ∃ k : Nat, k ≤ n ∧ i = .int .i64 k ∧ Blk wr g t #[.int .i64 (Pl.mix m (xs.take k))] ∧ w.grownBy wr (some g)) (fun i _ => n - (intOf i).toNat)
  case atStart => exact ⟨0, Nat.zero_le _, rfl, hp, World.grownBy.refl _ _⟩
  case round =>
    obtain ⟨k, hk, rfl, hB, hG⟩ := hrel
    have hf0 := hB.free 0
    have hc0 : wr.cell? ⟨g, 0, none⟩ = some (.int .i64 (Pl.mix m (xs.take k))) := hB.cells 0
    have hbd := Pl.mix_bd m (xs.take k) hm
    by_cases hlt : k < n
    · have hsn := Pl.mix_snoc m (xs.take k) (xs.getD k 0)
      rw [← take_snoc xs k (by rw [HL.out]; exact hlt)] at hsn
      obtain ⟨x0, x1⟩ := words_at HR.out k
      obtain ⟨b, off, rfl, hbl, hcell⟩ := (HX.out.only hG HG.out).at (by omega)
      have hck := hcell k hlt
      clear hcell
      generalize xs.getD k 0 = x at *
      generalize Pl.mix m (xs.take k) = y at *
      have HS := Lib.hid hsn
      clear hsn
      obtain ⟨y0, y1⟩ := hbd
      go_wp2
      go_roundw
      case rel => exact ⟨k + 1, by omega, by go_num, by rw [HS.out]; exact hB.put 0 _, only_set hG 0 _⟩
      case measure => simp [intOf]; omega
    · have hrest : xs.take k = xs := List.take_of_length_le (by rw [HL.out]; omega)
      rw [hrest] at hB
      clear hrest hc0
      go_wp2
      go_returns
      exact ⟨rfl, hB, hG⟩
end Go.Proofs.YtapmbjmcbllalaaDoor
