/- Lemmas of this seat, bound together: Ip6d Ip6l Copy Concat Ip4. Conditions: as each lemma states them. -/
import Derived.Test.YtbjogkpepfgegaaGreatDoorK04
import Derived.Test.YtbjogkpepfgegaaGreatDoorK02
import Derived.BigQuiet
import Derived.Deep.RegionHeld3
import Derived.Deep.DeepCutAuto
import Derived.Test.YtbjogkpepfgegaaGreatDoorK00
import Derived.Laws.CopyOwn
import Derived.Lib.AppendZerosOnto
import Derived.Test.YtbjogkpepfgegaaGreatDoorK01
namespace Go.Proofs.YtbjogkpepfgegaaGreatDoor
open Go.RowKit
namespace Pl
/-- Are bytes a packet of sixes? -/
def Is6 (xs : List Int) : Prop := (40 ≤ xs.length ∧ xs.length ≤ 360) ∧ xs.getD 0 0 = 96 ∧ (xs.getD 1 0 = 0 ∧ xs.getD 2 0 = 0 ∧ xs.getD 3 0 = 0) ∧ xs.getD 4 0 * 256 + xs.getD 5 0 = xs.length - 40
def dec6 (xs : List Int) : P6 := ⟨sixAt (xs.drop 8), sixAt (xs.drop 24), xs.getD 7 0, xs.getD 6 0⟩
end Pl
def p60 : P6 := ⟨⟨0, 0, 0, 0, 0, 0, 0, 0⟩, ⟨0, 0, 0, 0, 0, 0, 0, 0⟩, 0, 0⟩

theorem P6.one (p : P6) (a : Option Addr) (n c : Nat) : (p.cells (.slice a n c)).all (·.oneCell') = true := by simp [P6.cells, Value.oneCell']
theorem sto6 {w : World} {R : Nat} (k : Blk w R 61 #[.int .i64 0, .int .i64 0, .int .i64 0, .int .i64 0, .int .i64 0, .int .i64 0, .int .i64 0, .int .i64 0, .int .i64 0, .int .i64 0, .int .i64 0, .int .i64 0, .int .i64 0, .int .i64 0, .int .i64 0, .int .i64 0, .int .i64 0, .int .i64 0, .slice none 0 0]) (p : P6) (a : Option Addr) (n c : Nat) :
    (Instr.storeAt 61 (.pointer (some ⟨R, 0, none⟩)) (.agg #[.int .i64 p.src.x0, .int .i64 p.src.x1, .int .i64 p.src.x2, .int .i64 p.src.x3, .int .i64 p.src.x4, .int .i64 p.src.x5, .int .i64 p.src.x6, .int .i64 p.src.x7, .int .i64 p.dst.x0, .int .i64 p.dst.x1, .int .i64 p.dst.x2, .int .i64 p.dst.x3, .int .i64 p.dst.x4, .int .i64 p.dst.x5, .int .i64 p.dst.x6, .int .i64 p.dst.x7, .int .i64 p.hop, .int .i64 p.kind, .slice a n c])).run Tryz.prog w = .ok () (w.setRow R (p.cells (.slice a n c))) := k.store rfl Tryz.sizeP6 (p.one a n c)
theorem sto60 {w : World} {R : Nat} (k : Blk w R 61 #[.int .i64 0, .int .i64 0, .int .i64 0, .int .i64 0, .int .i64 0, .int .i64 0, .int .i64 0, .int .i64 0, .int .i64 0, .int .i64 0, .int .i64 0, .int .i64 0, .int .i64 0, .int .i64 0, .int .i64 0, .int .i64 0, .int .i64 0, .int .i64 0, .slice none 0 0]) :
    (Instr.storeAt 61 (.pointer (some ⟨R, 0, none⟩)) (.agg #[.int .i64 0, .int .i64 0, .int .i64 0, .int .i64 0, .int .i64 0, .int .i64 0, .int .i64 0, .int .i64 0, .int .i64 0, .int .i64 0, .int .i64 0, .int .i64 0, .int .i64 0, .int .i64 0, .int .i64 0, .int .i64 0, .int .i64 0, .int .i64 0, .slice none 0 0])).run Tryz.prog w = .ok () (w.setRow R #[.int .i64 0, .int .i64 0, .int .i64 0, .int .i64 0, .int .i64 0, .int .i64 0, .int .i64 0, .int .i64 0, .int .i64 0, .int .i64 0, .int .i64 0, .int .i64 0, .int .i64 0, .int .i64 0, .int .i64 0, .int .i64 0, .int .i64 0, .int .i64 0, .slice none 0 0]) := k.store rfl Tryz.sizeP6 (by simp [Value.oneCell'])
/-- What Decode gives of bytes that are no packet. -/
def Bad6 (e : Ending) : Prop := e = .returned (.tuple #[.agg #[.int .i64 0, .int .i64 0, .int .i64 0, .int .i64 0, .int .i64 0, .int .i64 0, .int .i64 0, .int .i64 0, .int .i64 0, .int .i64 0, .int .i64 0, .int .i64 0, .int .i64 0, .int .i64 0, .int .i64 0, .int .i64 0, .int .i64 0, .int .i64 0, .slice none 0 0], errv 5])

set_option maxRecDepth 100000 in
set_option maxHeartbeats 1000000 in
theorem decode6_bad (a : Option Addr) (n c : Nat) (xs : List Int) (w : World) (hr : Ints .u8 w a n xs) (hb : Pl.IsB xs) (h : ¬ Pl.Is6 xs) :
    Calls Tryz.prog 27 #[.slice a n c] w fun e w' => Bad6 e ∧ Ext w w' := by
  have KR := Blk.new w 61 #[.int .i64 0, .int .i64 0, .int .i64 0, .int .i64 0, .int .i64 0, .int .i64 0, .int .i64 0, .int .i64 0, .int .i64 0, .int .i64 0, .int .i64 0, .int .i64 0, .int .i64 0, .int .i64 0, .int .i64 0, .int .i64 0, .int .i64 0, .int .i64 0, .slice none 0 0]
  have E0 : Ext w (w.alloc (.cells #[.int .i64 0, .int .i64 0, .int .i64 0, .int .i64 0, .int .i64 0, .int .i64 0, .int .i64 0, .int .i64 0, .int .i64 0, .int .i64 0, .int .i64 0, .int .i64 0, .int .i64 0, .int .i64 0, .int .i64 0, .int .i64 0, .int .i64 0, .int .i64 0, .slice none 0 0] 61)) := (Ext.refl w).alloc _
  have hlen := hr.len
  by_cases g0 : n < 40
  case pos =>
    have g0' : decide ((n : Int) < 40) = true := by simp; omega
    clear h
    go_enter Tryz.func27, Tryz.ntmps27
    go_upto_region 1 with (fail)
    go_quiet (fail)
    have s0 := sto60 (KR.drewN nq)
    go_wp2_with ((apply store_by rfl _ _ _ rfl _ rfl); (focus (with_reducible assumption)); (focus rfl))
    refine bodyPost_ret (results_cell2 Tryz.results27 _ _ w.heap.size 61 #[.int .i64 0, .int .i64 0, .int .i64 0, .int .i64 0, .int .i64 0, .int .i64 0, .int .i64 0, .int .i64 0, .int .i64 0, .int .i64 0, .int .i64 0, .int .i64 0, .int .i64 0, .int .i64 0, .int .i64 0, .int .i64 0, .int .i64 0, .int .i64 0, .slice none 0 0] _ rfl ((KR.drewN nq).row _) Tryz.underlying61 rfl Tryz.sizeP6) rfl ⟨rfl, (E0.drewN nq).row (Nat.le_refl _) _⟩
  have g0' : decide ((n : Int) < 40) = false := by simp; omega
  have HLEN := Lib.hid hlen
  by_cases g1 : 360 < n
  case pos =>
    have g1' : decide ((360 : Int) < (n : Int)) = true := by simp; omega
    clear h
    go_enter Tryz.func27, Tryz.ntmps27
    go_upto_region 1 with (fail)
    go_quiet (fail)
    have s0 := sto60 (KR.drewN nq)
    go_wp2_with ((apply store_by rfl _ _ _ rfl _ rfl); (focus (with_reducible assumption)); (focus rfl))
    refine bodyPost_ret (results_cell2 Tryz.results27 _ _ w.heap.size 61 #[.int .i64 0, .int .i64 0, .int .i64 0, .int .i64 0, .int .i64 0, .int .i64 0, .int .i64 0, .int .i64 0, .int .i64 0, .int .i64 0, .int .i64 0, .int .i64 0, .int .i64 0, .int .i64 0, .int .i64 0, .int .i64 0, .int .i64 0, .int .i64 0, .slice none 0 0] _ rfl ((KR.drewN nq).row _) Tryz.underlying61 rfl Tryz.sizeP6) rfl ⟨rfl, (E0.drewN nq).row (Nat.le_refl _) _⟩
  have g1' : decide ((360 : Int) < (n : Int)) = false := by simp; omega
  obtain ⟨b, off, rfl, hbl, hc⟩ := hr.at (by omega)
  have c0 : w.cell? ⟨b, off, none⟩ = _ := hc 0 (by omega)
  have c1 := hc 1 (by omega)
  have c2 := hc 2 (by omega)
  have c3 := hc 3 (by omega)
  have c4 := hc 4 (by omega)
  have c5 := hc 5 (by omega)
  have x1 := hb.getD 1
  have x2 := hb.getD 2
  have x3 := hb.getD 3
  have x4 := hb.getD 4
  have x5 := hb.getD 5
  have l0 : (0 : Int) < (n : Int) := by omega
  have l1 : (1 : Int) < (n : Int) := by omega
  have l2 : (2 : Int) < (n : Int) := by omega
  have l3 : (3 : Int) < (n : Int) := by omega
  have l4 : (4 : Int) < (n : Int) := by omega
  have l5 : (5 : Int) < (n : Int) := by omega
  have hnot : ¬ (xs.getD 0 0 = 96 ∧ (xs.getD 1 0 = 0 ∧ xs.getD 2 0 = 0 ∧ xs.getD 3 0 = 0) ∧ xs.getD 4 0 * 256 + xs.getD 5 0 = (n : Int) - 40) := fun hh => h ⟨by rw [hlen]; omega, hh.1, hh.2.1, by rw [hh.2.2, hlen]⟩
  have HNOT := Lib.hid hnot
  clear hc h hnot hr hb hlen
  generalize xs.getD 0 0 = X0 at *
  generalize xs.getD 1 0 = X1 at *
  generalize xs.getD 2 0 = X2 at *
  generalize xs.getD 3 0 = X3 at *
  generalize xs.getD 4 0 = X4 at *
  generalize xs.getD 5 0 = X5 at *
  by_cases g2 : X0 = 96
  case neg =>
    have g2' : (X0 != 96) = true := by simpa using g2
    clear g2 c1 c2 c3 c4 c5
    go_enter Tryz.func27, Tryz.ntmps27
    go_upto_region 1 with (fail)
    go_quiet (fail)
    have s0 := sto60 (KR.drewN nq)
    go_wp2_with ((apply store_by rfl _ _ _ rfl _ rfl); (focus (with_reducible assumption)); (focus rfl))
    refine bodyPost_ret (results_cell2 Tryz.results27 _ _ w.heap.size 61 #[.int .i64 0, .int .i64 0, .int .i64 0, .int .i64 0, .int .i64 0, .int .i64 0, .int .i64 0, .int .i64 0, .int .i64 0, .int .i64 0, .int .i64 0, .int .i64 0, .int .i64 0, .int .i64 0, .int .i64 0, .int .i64 0, .int .i64 0, .int .i64 0, .slice none 0 0] _ rfl ((KR.drewN nq).row _) Tryz.underlying61 rfl Tryz.sizeP6) rfl ⟨rfl, (E0.drewN nq).row (Nat.le_refl _) _⟩
  have g2' : (X0 != 96) = false := by simpa using g2
  have h3 := or3 x1 x2 x3
  by_cases g3 : X1 = 0 ∧ X2 = 0 ∧ X3 = 0
  case neg =>
    have g3' : (bits .or .u8 (bits .or .u8 X1 X2) X3 != 0) = true := by
      rw [bne_iff_ne]
      exact fun e => g3 (h3.1 e)
    clear g2 g3 c4 c5 h3
    go_enter Tryz.func27, Tryz.ntmps27
    go_upto_region 1 with (fail)
    go_quiet (fail)
    have s0 := sto60 (KR.drewN nq)
    go_wp2_with ((apply store_by rfl _ _ _ rfl _ rfl); (focus (with_reducible assumption)); (focus rfl))
    refine bodyPost_ret (results_cell2 Tryz.results27 _ _ w.heap.size 61 #[.int .i64 0, .int .i64 0, .int .i64 0, .int .i64 0, .int .i64 0, .int .i64 0, .int .i64 0, .int .i64 0, .int .i64 0, .int .i64 0, .int .i64 0, .int .i64 0, .int .i64 0, .int .i64 0, .int .i64 0, .int .i64 0, .int .i64 0, .int .i64 0, .slice none 0 0] _ rfl ((KR.drewN nq).row _) Tryz.underlying61 rfl Tryz.sizeP6) rfl ⟨rfl, (E0.drewN nq).row (Nat.le_refl _) _⟩
  have g3' : (bits .or .u8 (bits .or .u8 X1 X2) X3 != 0) = false := by rw [h3.2 g3]; rfl
  have g4 : (X4 * 256 + X5 != (n : Int) - 40) = true := by
    rw [bne_iff_ne]
    exact fun e => HNOT.out ⟨g2, g3, e⟩
  obtain ⟨x40, x41⟩ := x4
  obtain ⟨x50, x51⟩ := x5
  have eor : bits BinOp.or IntKind.i64 (X4 * 256) X5 = X4 * 256 + X5 := or8 (by omega) (by omega) (by omega) (by omega) (by omega)
  have ew4 : IntKind.i64.wrap X4 = X4 := IntWalk.i64_in _ (by omega)
  have ew5 : IntKind.i64.wrap X5 = X5 := IntWalk.i64_in _ (by omega)
  have ew6 : IntKind.i64.wrap (X4 * 256) = X4 * 256 := IntWalk.i64_in _ (by omega)
  have ew7 : IntKind.i64.wrap ((n : Int) - 40) = (n : Int) - 40 := IntWalk.i64_in _ (by omega)
  clear g2 g3 h3 x1 x2 x3
  go_enter Tryz.func27, Tryz.ntmps27
  go_upto_region 1 with (fail)
  go_quiet (fail)
  have s0 := sto60 (KR.drewN nq)
  go_wp2_with ((apply store_by rfl _ _ _ rfl _ rfl); (focus (with_reducible assumption)); (focus rfl))
  refine bodyPost_ret (results_cell2 Tryz.results27 _ _ w.heap.size 61 #[.int .i64 0, .int .i64 0, .int .i64 0, .int .i64 0, .int .i64 0, .int .i64 0, .int .i64 0, .int .i64 0, .int .i64 0, .int .i64 0, .int .i64 0, .int .i64 0, .int .i64 0, .int .i64 0, .int .i64 0, .int .i64 0, .int .i64 0, .int .i64 0, .slice none 0 0] _ rfl ((KR.drewN nq).row _) Tryz.underlying61 rfl Tryz.sizeP6) rfl ⟨rfl, (E0.drewN nq).row (Nat.le_refl _) _⟩
end Go.Proofs.YtbjogkpepfgegaaGreatDoor
namespace Go.Proofs.YtbjogkpepfgegaaGreatDoor
namespace Pl
theorem cat_div {a b : Int} (h : 0 ≤ b ∧ b ≤ 255) : (a * 256 + b) / 256 = a := by omega
theorem cat_mod {a b : Int} (h : 0 ≤ b ∧ b ≤ 255) : (a * 256 + b) % 256 = b := by omega
theorem div_cat (x : Int) : x / 256 * 256 + x % 256 = x := by omega
theorem enc6_length (p : P6) (b : List Int) : (enc6 p b).length = 40 + b.length := by
  unfold enc6 head6
  simp only [List.length_append, two_length]
  simp [Six.l]
theorem enc6_drop (p : P6) (b : List Int) : (enc6 p b).drop 40 = b := rfl
theorem enc6_dec (p : P6) (b : List Int) : dec6 (enc6 p b) = p := by
  obtain ⟨⟨s0, s1, s2, s3, s4, s5, s6, s7⟩, ⟨d0, d1, d2, d3, d4, d5, d6, d7⟩, h, k⟩ := p
  show (⟨⟨s0 / 256 * 256 + s0 % 256, s1 / 256 * 256 + s1 % 256, s2 / 256 * 256 + s2 % 256, s3 / 256 * 256 + s3 % 256, s4 / 256 * 256 + s4 % 256, s5 / 256 * 256 + s5 % 256, s6 / 256 * 256 + s6 % 256, s7 / 256 * 256 + s7 % 256⟩, ⟨d0 / 256 * 256 + d0 % 256, d1 / 256 * 256 + d1 % 256, d2 / 256 * 256 + d2 % 256, d3 / 256 * 256 + d3 % 256, d4 / 256 * 256 + d4 % 256, d5 / 256 * 256 + d5 % 256, d6 / 256 * 256 + d6 % 256, d7 / 256 * 256 + d7 % 256⟩, h, k⟩ : P6) = _
  simp only [div_cat]
theorem enc6_isB {p : P6} {b : List Int} (hg : p.good = true) (hn : b.length ≤ 320) (hb : IsB b) : IsB (enc6 p b) := by
  obtain ⟨hs, hd, hh, hk⟩ := P6.good_all hg
  unfold enc6 head6
  refine ((IsB.append ?_ (Six.isB hs)).append (Six.isB hd)).append hb
  intro x hx
  simp only [List.mem_cons, List.not_mem_nil, or_false] at hx
  rcases hx with rfl | rfl | rfl | rfl | rfl | rfl | rfl | rfl <;> omega
theorem enc6_is {p : P6} {b : List Int} (hn : b.length ≤ 320) : Is6 (enc6 p b) := by
  refine ⟨by rw [enc6_length]; omega, rfl, ⟨rfl, rfl, rfl⟩, ?_⟩
  rw [enc6_length]
  show (b.length : Int) / 256 * 256 + (b.length : Int) % 256 = _
  rw [div_cat]
  omega
theorem enc6_cut {p : P6} {b : List Int} (k : Nat) (hk : k < (enc6 p b).length) : ¬ Is6 ((enc6 p b).take k) := by
  intro ⟨⟨h0, h1⟩, _, _, h4⟩
  rw [List.length_take] at h0 h4
  have hl := enc6_length p b
  have e4 : ((enc6 p b).take k).getD 4 0 = (b.length : Int) / 256 := by
    rw [List.getD_eq_getElem?_getD, List.getElem?_take, if_pos (by omega)]; rfl
  have e5 : ((enc6 p b).take k).getD 5 0 = (b.length : Int) % 256 := by
    rw [List.getD_eq_getElem?_getD, List.getElem?_take, if_pos (by omega)]; rfl
  rw [e4, e5, div_cat] at h4
  omega
theorem enc6_more {p : P6} {b : List Int} (y : Int) : ¬ Is6 (enc6 p b ++ [y]) := by
  intro ⟨_, _, _, h4⟩
  rw [List.length_append, enc6_length] at h4
  have e4 : (enc6 p b ++ [y]).getD 4 0 = (b.length : Int) / 256 := rfl
  have e5 : (enc6 p b ++ [y]).getD 5 0 = (b.length : Int) % 256 := rfl
  rw [e4, e5, div_cat] at h4
  simp at h4
  omega
theorem take_getD (xs : List Int) : ∀ n, n ≤ xs.length → xs.take n = (List.range n).map (fun i => xs.getD i 0)
  | 0, _ => by simp
  | n + 1, h => by
    rw [take_snoc xs n (by omega), take_getD xs n (by omega), List.range_succ, List.map_append]
    rfl
theorem drop_getD (xs : List Int) (k i : Nat) : (xs.drop k).getD i 0 = xs.getD (k + i) 0 := by
  rw [List.getD_eq_getElem?_getD, List.getElem?_drop, List.getD_eq_getElem?_getD]
set_option maxRecDepth 10000 in
theorem dec6_enc {xs : List Int} (hb : IsB xs) (h : Is6 xs) : enc6 (dec6 xs) (xs.drop 40) = xs := by
  obtain ⟨⟨h0, _⟩, e0, ⟨e1, e2, e3⟩, e4⟩ := h
  have ht := List.take_append_drop 40 xs
  have B := fun i => hb.getD i
  have hl : ((xs.drop 40).length : Int) = xs.getD 4 0 * 256 + xs.getD 5 0 := by rw [e4, List.length_drop]; omega
  have hd : dec6 xs = ⟨⟨xs.getD 8 0 * 256 + xs.getD 9 0, xs.getD 10 0 * 256 + xs.getD 11 0, xs.getD 12 0 * 256 + xs.getD 13 0, xs.getD 14 0 * 256 + xs.getD 15 0, xs.getD 16 0 * 256 + xs.getD 17 0, xs.getD 18 0 * 256 + xs.getD 19 0, xs.getD 20 0 * 256 + xs.getD 21 0, xs.getD 22 0 * 256 + xs.getD 23 0⟩, ⟨xs.getD 24 0 * 256 + xs.getD 25 0, xs.getD 26 0 * 256 + xs.getD 27 0, xs.getD 28 0 * 256 + xs.getD 29 0, xs.getD 30 0 * 256 + xs.getD 31 0, xs.getD 32 0 * 256 + xs.getD 33 0, xs.getD 34 0 * 256 + xs.getD 35 0, xs.getD 36 0 * 256 + xs.getD 37 0, xs.getD 38 0 * 256 + xs.getD 39 0⟩, xs.getD 7 0, xs.getD 6 0⟩ := by
    unfold dec6 sixAt at2
    simp only [drop_getD]
  have htk := take_getD xs 40 h0
  rw [hd]
  generalize xs.drop 40 = r at *
  rw [← ht, htk]
  clear ht htk hd h0
  generalize hf : (fun i => xs.getD i 0) = f
  have g : ∀ i, xs.getD i 0 = f i := fun i => by rw [← hf]
  simp only [g] at *
  clear g hf hb
  show [96, 0, 0, 0, (r.length : Int) / 256, (r.length : Int) % 256, f 6, f 7, (f 8 * 256 + f 9) / 256, (f 8 * 256 + f 9) % 256, (f 10 * 256 + f 11) / 256, (f 10 * 256 + f 11) % 256, (f 12 * 256 + f 13) / 256, (f 12 * 256 + f 13) % 256, (f 14 * 256 + f 15) / 256, (f 14 * 256 + f 15) % 256, (f 16 * 256 + f 17) / 256, (f 16 * 256 + f 17) % 256, (f 18 * 256 + f 19) / 256, (f 18 * 256 + f 19) % 256, (f 20 * 256 + f 21) / 256, (f 20 * 256 + f 21) % 256, (f 22 * 256 + f 23) / 256, (f 22 * 256 + f 23) % 256, (f 24 * 256 + f 25) / 256, (f 24 * 256 + f 25) % 256, (f 26 * 256 + f 27) / 256, (f 26 * 256 + f 27) % 256, (f 28 * 256 + f 29) / 256, (f 28 * 256 + f 29) % 256, (f 30 * 256 + f 31) / 256, (f 30 * 256 + f 31) % 256, (f 32 * 256 + f 33) / 256, (f 32 * 256 + f 33) % 256, (f 34 * 256 + f 35) / 256, (f 34 * 256 + f 35) % 256, (f 36 * 256 + f 37) / 256, (f 36 * 256 + f 37) % 256, (f 38 * 256 + f 39) / 256, (f 38 * 256 + f 39) % 256] ++ r = [f 0, f 1, f 2, f 3, f 4, f 5, f 6, f 7, f 8, f 9, f 10, f 11, f 12, f 13, f 14, f 15, f 16, f 17, f 18, f 19, f 20, f 21, f 22, f 23, f 24, f 25, f 26, f 27, f 28, f 29, f 30, f 31, f 32, f 33, f 34, f 35, f 36, f 37, f 38, f 39] ++ r
  rw [hl, cat_div (B 5), cat_mod (B 5), e0, e1, e2, e3, cat_div (B 9), cat_mod (B 9), cat_div (B 11), cat_mod (B 11), cat_div (B 13), cat_mod (B 13), cat_div (B 15), cat_mod (B 15), cat_div (B 17), cat_mod (B 17), cat_div (B 19), cat_mod (B 19), cat_div (B 21), cat_mod (B 21), cat_div (B 23), cat_mod (B 23), cat_div (B 25), cat_mod (B 25), cat_div (B 27), cat_mod (B 27), cat_div (B 29), cat_mod (B 29), cat_div (B 31), cat_mod (B 31), cat_div (B 33), cat_mod (B 33), cat_div (B 35), cat_mod (B 35), cat_div (B 37), cat_mod (B 37), cat_div (B 39), cat_mod (B 39)]
theorem dec6_good {xs : List Int} (hb : IsB xs) : (dec6 xs).good = true := by
  have a2 : ∀ l : List Int, IsB l → ∀ i, 0 ≤ at2 l i ∧ at2 l i ≤ 65535 := fun l hl i => by
    obtain ⟨u0, u1⟩ := hl.getD i
    obtain ⟨v0, v1⟩ := hl.getD (i + 1)
    unfold at2
    omega
  have six : ∀ l : List Int, IsB l → okS (sixAt l) = true := fun l hl => by
    unfold okS
    refine words_of fun x hx => ?_
    simp only [Six.l, sixAt, List.mem_cons, List.not_mem_nil, or_false] at hx
    rcases hx with rfl | rfl | rfl | rfl | rfl | rfl | rfl | rfl <;> exact a2 l hl _
  unfold P6.good dec6
  have h7 := hb.getD 7
  have h6 := hb.getD 6
  simp only [six _ (hb.drop 8), six _ (hb.drop 24), b8, decide_eq_true h7.1, decide_eq_true h7.2, decide_eq_true h6.1, decide_eq_true h6.2, Bool.and_self]
theorem dec6_fault {xs : List Int} (hb : IsB xs) (h : Is6 xs) : (dec6 xs).fault (xs.drop 40).length = 0 := by
  obtain ⟨⟨h0, h1⟩, _⟩ := h
  exact P6.fault_none (dec6_good hb) (by rw [List.length_drop]; omega)
end Pl
end Go.Proofs.YtbjogkpepfgegaaGreatDoor
namespace Go.Proofs.YtbjogkpepfgegaaGreatDoor
open Go.RowKit

theorem Tryz.sizeU8 : (Tryz.prog.info? 5).map (·.size) = some 1 := by kernel_rfl

theorem step_copy {w : World} {ops : Array Oper} {o : Oper} {a : Act} {K : Act → World → Prop} {Q : Exit → Act → World → Prop} {E : Prop} (hgd : o.guard = none) (d s : Operand)
    (ho : o.op = .call { callee := .builtin .copy, args := #[d, s], argTypes := #[37, 37] })
    (B g N cap lo m dc : Nat) (xs : List Int) (hown : Own w B (.slice (some ⟨g, 0, none⟩) N cap) xs) (hd : a.eval d = .slice (some ⟨g, lo, none⟩) m dc)
    (sp : Option Addr) (sc : Nat) (ys : List Int) (hs : a.eval s = .slice sp m sc) (hr : Ints .u8 w sp m ys) (hlo : lo + m ≤ N)
    (h : ∀ w', Own w' B (.slice (some ⟨g, 0, none⟩) N cap) (xs.take lo ++ (ys ++ xs.drop (lo + m))) → Below B w w' → K (a.put o.dst (goInt m)) w') :
    if Region.wanted o (yielded ops a.tmps) = true then Oper.wp Tryz.prog o a w K Q else E := by
  have hlen := hown.len
  obtain ⟨h1, h2⟩ := hown
  rcases h2 with ⟨h2, _⟩ | ⟨g', cap', cur, hv, hg, hh, hnc, hcap, hsz, htake⟩
  · cases h2
  · simp only [Value.slice.injEq, Option.some.injEq, Addr.mk.injEq, and_true] at hv
    obtain ⟨rfl, rfl, rfl⟩ := hv
    have hm : (bcells ys).length = m := by rw [bcells_length, hr.len]
    have hcl : cur.toList.length = cap := by simpa using hsz
    refine step_copy_splice hgd d s _ _ ho 5 Tryz.underlying37 Tryz.sizeU8 (some ⟨g, lo, none⟩) sp m dc m sc hd hs g lo cur.toList 5 (by simpa using hh) (bcells ys) (by rw [hm]; simp) ?_ (by rw [hm, hcl]; omega) (bcells_one ys) B w (Below.refl B w) hg ?_
    · intro hpos
      refine ⟨rfl, ?_⟩
      obtain ⟨b, off, rfl, _, hc⟩ := hr.at (by omega)
      refine ⟨_, rfl, fun j u hj => ?_⟩
      have hlt : j < m := by have := (List.getElem?_eq_some_iff.1 hj).1; omega
      have hlt' : j < ys.length := by rw [hr.len]; exact hlt
      rw [bcells, List.getElem?_map, List.getElem?_eq_getElem hlt'] at hj
      simp only [Option.map_some, Option.some.injEq] at hj
      rw [← hj, Addr.add_lit, hc j hlt]
      simp [List.getD, hlt']
    · intro w' hg' hb
      rw [hm]
      refine h w' ?_ hb
      have hl : (xs.take lo ++ (ys ++ xs.drop (lo + m))).length = xs.length := by
        simp only [List.length_append, List.length_take, List.length_drop, hr.len]; omega
      have hT : (splice cur.toList lo (bcells ys)).take xs.length = bcells (xs.take lo ++ (ys ++ xs.drop (lo + m))) := by
        have htake' : cur.toList.take xs.length = bcells xs := by rw [← htake]; simp
        unfold splice
        rw [hm]
        have e1 : cur.toList.take lo = bcells (xs.take lo) := by
          have : cur.toList.take lo = (cur.toList.take xs.length).take lo := by rw [List.take_take, Nat.min_eq_left (by omega)]
          rw [this, htake', bcells, bcells, List.map_take]
        have e2 : (cur.toList.drop (lo + m)).take (xs.length - (lo + m)) = bcells (xs.drop (lo + m)) := by
          have : (cur.toList.drop (lo + m)).take (xs.length - (lo + m)) = (cur.toList.take xs.length).drop (lo + m) := by rw [List.drop_take]
          rw [this, htake', bcells, bcells, List.map_drop]
        have lA : (bcells (xs.take lo)).length = lo := by rw [bcells_length, List.length_take]; omega
        rw [e1, List.take_append, List.take_append, lA, hm, List.take_of_length_le (l := bcells (xs.take lo)) (by rw [lA]; omega), List.take_of_length_le (l := bcells ys) (by rw [hm]; omega),
          show xs.length - lo - m = xs.length - (lo + m) from by omega, e2]
        simp [bcells]
      unfold Own
      rw [hl]
      refine ⟨by rw [bcells_length, hl]; omega, .inr ⟨g, cap, (splice cur.toList lo (bcells ys)).toArray, ?_, hg, hg'.out, by omega, hcap, ?_, ?_⟩⟩
      · rw [hlen]
      · rw [List.size_toArray, length_splice _ _ _ (by rw [hm, hcl]; omega), hcl]; omega
      · simpa using hT

end Go.Proofs.YtbjogkpepfgegaaGreatDoor
namespace Go.Proofs.YtbjogkpepfgegaaGreatDoor
open Go.RowKit

set_option maxRecDepth 100000 in
set_option maxHeartbeats 1000000 in
theorem grow_nil (n : Nat) (w : World) (hn : n ≤ 100000) :
    Calls Tryz.prog 96 #[.slice none 0 0, .int .i64 n] w fun e w' => ∃ v, e = .returned v ∧ Own w' w.heap.size v [] ∧ Ext w w' := by
  have h1 : ¬ (n : Int) < 0 := by omega
  rcases Nat.eq_zero_or_pos n with h0 | h0
  · subst h0
    go_enter Tryz.func96, Tryz.ntmps96
    go_wp2
    go_ret
    exact ⟨_, rfl, Own.nil _ _, Ext.refl _⟩
  · obtain ⟨i0, hi, hz0, hz1, hz2⟩ := info_parts Tryz.infoU8
    have hold : (Builtin.firstCells i0.size 0 (.slice none 0 0)).run Tryz.prog w.drew = .ok ([] : List Value).toArray w.drew := run_firstCells_none _ _ _ _ _
    have hrz : ∀ ty, (Builtin.append_ #[37, 3] ty #[.slice none 0 0, .int .i64 n]).run Tryz.prog w = _ := fun ty =>
      Lib.run_append_grow_zeros w 37 3 ty 5 i0 (.int .u8 0) .i64 .i64 Tryz.underlying37 Tryz.underlying3 hi hz0 none 0 0 [] hold n h0 (by omega) (by omega) (by omega) (by rw [hz2]; omega) (growslice_fits (by omega) (by rw [hz2]; omega))
    rw [Nat.zero_add] at hrz
    have hG := grownCap_le_maxLen w n 0 5 (by unfold maxLen; omega)
    have hGn := grownCap_ge w n 0 5
    have hsz : (([] : List Value).toArray ++ Builtin.zeroCells (Value.int .u8 0).cells n ++ Builtin.zeroCells (Value.int .u8 0).cells (grownCap w n 0 5 - n)).size = grownCap w n 0 5 * 1 := by
      simp [Builtin.zeroCells, Value.cells]; omega
    generalize hcs : ([] : List Value).toArray ++ Builtin.zeroCells (Value.int .u8 0).cells n ++ Builtin.zeroCells (Value.int .u8 0).cells (grownCap w n 0 5 - n) = cs at hrz hsz
    have hcap : (grownCap w n 0 5 : Int) ≤ 9223372036854775807 := by unfold maxLen at hG; omega
    generalize grownCap w n 0 5 = G at *
    have hown : Own (w.drew.alloc (.cells cs 5)) w.heap.size (.slice (some ⟨w.heap.size, 0, none⟩) 0 G) [] :=
      World.ownsRow_made (w := w.drew) cs G (Nat.le_refl _) hG hsz
    have HO := Lib.hid hown
    have hn1 : (0 : Int) < (n : Int) := by omega
    have ew : IntKind.i64.wrap (n : Int) = n := IntWalk.i64_in _ (by omega)
    clear hold hcs hsz hown hi hz0 hz1 hz2 hGn hG
    go_enter Tryz.func96, Tryz.ntmps96
    go_wp2_with (at_builtin; refine Lib.wpList_append_run _ rfl _ _ _ _ rfl _ _ rfl rfl _ _ (hrz _) ?_)
    go_ret
    exact ⟨_, rfl, HO.out, ((Ext.refl w).drew).alloc _⟩

set_option maxRecDepth 100000 in
set_option maxHeartbeats 2000000 in
theorem concat2 (g : Nat) (a1 : Option Addr) (n1 c1 : Nat) (x1 : List Int) (a2 : Option Addr) (n2 c2 : Nat) (x2 : List Int) (w : World) (K : Blk w g 37 #[.slice a1 n1 c1, .slice a2 n2 c2])
    (h1 : Ints .u8 w a1 n1 x1) (h2 : Ints .u8 w a2 n2 x2) (hn : n1 + n2 ≤ 10000) :
    Calls Tryz.prog 72 #[.slice (some ⟨g, 0, none⟩) 2 2] w fun e w' => ∃ v, e = .returned v ∧ Own w' w.heap.size v (x1 ++ x2) ∧ Ext w w' := by
  have H1 := Lib.hid h1
  have H2 := Lib.hid h2
  have HK := Lib.hid K
  have k0 : w.cell? ⟨g, 0, none⟩ = some (.slice a1 n1 c1) := K.cells 0
  have k1 : w.cell? ⟨g, 1, none⟩ = some (.slice a2 n2 c2) := K.cells 1
  have HC := Lib.hid (show (n1 : Int) + (n2 : Int) = ((n1 + n2 : Nat) : Int) by omega)
  have hz1 : ¬ (n1 : Int) < 0 := by omega
  clear h1 h2 K
  go_enter Tryz.func72, Tryz.ntmps72
  go_wp2_with fail
  go_loopw [3, 11] (fun s k wr => w = wr ∧ ((k = .int .i64 0 ∧ s = .int .i64 0) ∨ (k = .int .i64 1 ∧ s = .int .i64 n1) ∨ (k = .int .i64 2 ∧ s = .int .i64 ((n1 + n2 : Nat) : Int)))) (fun _ k _ => 2 - (intOf k).toNat)
  case atStart => exact ⟨rfl, .inl ⟨rfl, rfl⟩⟩
  case round =>
    obtain ⟨rfl, ⟨rfl, rfl⟩ | ⟨rfl, rfl⟩ | ⟨rfl, rfl⟩⟩ := hrel
    · go_wp2_with fail
      go_roundw
      case rel => exact ⟨trivial, .inr (.inl ⟨rfl, rfl⟩)⟩
      case measure => simp [intOf]
    · have hz2 : ¬ (n1 : Int) + (n2 : Int) < 0 := by omega
      have ew : IntKind.i64.wrap ((n1 : Int) + (n2 : Int)) = (n1 : Int) + (n2 : Int) := IntWalk.i64_in _ (by omega)
      go_wp2_with fail
      go_roundw
      case rel => exact ⟨trivial, .inr (.inr ⟨rfl, by rw [HC.out]⟩)⟩
      case measure => simp [intOf]
    · generalize hN : n1 + n2 = N at *
      go_wp2_with fail
      refine (grow_nil N w (by omega)).mono ?_
      rintro e W1 ⟨v, rfl, o1, q1⟩
      clear k0 k1
      go_wp2_with fail
      go_loopw [6, 27] (fun v k wr => ∃ ys, Own wr w.heap.size v ys ∧ Ext w wr ∧ ((k = .int .i64 0 ∧ ys = []) ∨ (k = .int .i64 1 ∧ ys = x1) ∨ (k = .int .i64 2 ∧ ys = x1 ++ x2))) (fun _ k _ => 2 - (intOf k).toNat)
      case atStart => exact ⟨[], o1, q1, .inl ⟨rfl, rfl⟩⟩
      case round =>
        obtain ⟨ys, oy, qy, hk⟩ := hrel
        have KW := HK.out.ext qy
        have j0 : wr.cell? ⟨g, 0, none⟩ = some (.slice a1 n1 c1) := KW.cells 0
        have j1 : wr.cell? ⟨g, 1, none⟩ = some (.slice a2 n2 c2) := KW.cells 1
        clear KW
        rcases hk with ⟨rfl, rfl⟩ | ⟨rfl, rfl⟩ | ⟨rfl, rfl⟩
        · go_wp2_with (at_builtin; refine Halt.out ?_)
          refine Halt.mk ?_
          refine app rfl _ _ rfl w.heap.size _ [] rfl oy _ n1 c1 x1 rfl (H1.out.ext qy) (by simp; omega) qy.size ?_
          intro v' w' o' b'
          clear j0 j1
          go_wp2_with fail
          go_roundw
          case rel => exact ⟨x1, o', Below.trans qy b', .inr (.inl ⟨rfl, rfl⟩)⟩
          case measure => simp [intOf]
        · go_wp2_with (at_builtin; refine Halt.out ?_)
          refine Halt.mk ?_
          refine app rfl _ _ rfl w.heap.size _ _ rfl oy _ n2 c2 x2 rfl (H2.out.ext qy) (by rw [H1.out.len]; omega) qy.size ?_
          intro v' w' o' b'
          clear j0 j1
          go_wp2_with fail
          go_roundw
          case rel => exact ⟨_, o', Below.trans qy b', .inr (.inr ⟨rfl, rfl⟩)⟩
          case measure => simp [intOf]
        · clear j0 j1
          go_wp2_with fail
          go_ret
          exact ⟨_, rfl, oy, qy⟩
end Go.Proofs.YtbjogkpepfgegaaGreatDoor
namespace Go.Proofs.YtbjogkpepfgegaaGreatDoor
open Go.RowKit

/-- A packet as a value. -/
def pk4 (s d t k i : Int) (b : Value) : Value := .agg #[.int .i64 s, .int .i64 d, .int .i64 t, .int .i64 k, .int .i64 i, b]
namespace Pl
/-- Are a packet's numbers such that may be? -/
def Ok4 (s d t k i : Int) : Prop := (0 ≤ s ∧ s < 4294967296) ∧ (0 ≤ d ∧ d < 4294967296) ∧ (0 ≤ t ∧ t ≤ 255) ∧ (0 ≤ k ∧ k ≤ 255) ∧ (0 ≤ i ∧ i ≤ 65535)
end Pl

set_option maxHeartbeats 800000 in
theorem check4_ok (s d t k i : Int) (a : Option Addr) (n c : Nat) (w : World) (h : Pl.Ok4 s d t k i) (hn : n ≤ 320) :
    Calls Tryz.prog 74 #[pk4 s d t k i (.slice a n c)] w fun e w' => e = .returned .nilIface ∧ Below w.heap.size w w' := by
  obtain ⟨⟨s0, s1⟩, ⟨d0, d1⟩, ⟨t0, t1⟩, ⟨k0, k1⟩, ⟨i0, i1⟩⟩ := h
  unfold pk4
  go_enter Tryz.func74, Tryz.ntmps74
  go_wp2_with (go_at_call 48; refine (is_yes _ _ (by assumption) (by assumption)).mono ?_; rintro e w' ⟨rfl, rfl⟩)
  go_ret
  exact ⟨rfl, by go_grown⟩
set_option maxHeartbeats 800000 in
theorem check4_full (s d t k i : Int) (a : Option Addr) (n c : Nat) (w : World) (h : Pl.Ok4 s d t k i) (hn : 320 < n) :
    Calls Tryz.prog 74 #[pk4 s d t k i (.slice a n c)] w fun e w' => e = .returned (errv 3) ∧ Below w.heap.size w w' := by
  obtain ⟨⟨s0, s1⟩, ⟨d0, d1⟩, ⟨t0, t1⟩, ⟨k0, k1⟩, ⟨i0, i1⟩⟩ := h
  unfold pk4
  go_enter Tryz.func74, Tryz.ntmps74
  go_wp2_with (go_at_call 48; refine (is_yes _ _ (by assumption) (by assumption)).mono ?_; rintro e w' ⟨rfl, rfl⟩)
  go_ret
  exact ⟨rfl, by go_grown⟩
set_option maxHeartbeats 1600000 in
theorem check4_range (s d t k i : Int) (a : Option Addr) (n c : Nat) (w : World) (h : ¬ Pl.Ok4 s d t k i) :
    Calls Tryz.prog 74 #[pk4 s d t k i (.slice a n c)] w fun e w' => e = .returned (errv 1) ∧ Below w.heap.size w w' := by
  have H := Lib.hid h
  clear h
  unfold pk4
  by_cases hs : 0 ≤ s ∧ s < 4294967296
  case neg =>
    have HS := Lib.hid hs
    clear hs
    go_enter Tryz.func74, Tryz.ntmps74
    go_wp2_with (go_at_call 48; refine (is_no _ _ HS.out).mono ?_; rintro e w' ⟨rfl, rfl⟩)
    go_ret
    exact ⟨rfl, by go_grown⟩
  by_cases hd : 0 ≤ d ∧ d < 4294967296
  case neg =>
    have HS := Lib.hid hd
    have HT := Lib.hid hs
    clear hs hd
    go_enter Tryz.func74, Tryz.ntmps74
    go_wp2_with (go_at_call 48; first | ((with_reducible refine (is_no d _ HS.out).mono ?_); rintro e w' ⟨rfl, rfl⟩) | ((with_reducible refine (is_yes s _ HT.out.1 HT.out.2).mono ?_); rintro e w' ⟨rfl, rfl⟩))
    go_ret
    exact ⟨rfl, by go_grown⟩
  obtain ⟨s0, s1⟩ := hs
  obtain ⟨d0, d1⟩ := hd
  by_cases ht0 : 0 ≤ t
  case neg =>
    go_enter Tryz.func74, Tryz.ntmps74
    go_wp2_with (go_at_call 48; refine (is_yes _ _ (by assumption) (by assumption)).mono ?_; rintro e w' ⟨rfl, rfl⟩)
    go_ret
    exact ⟨rfl, by go_grown⟩
  by_cases ht1 : t ≤ 255
  case neg =>
    go_enter Tryz.func74, Tryz.ntmps74
    go_wp2_with (go_at_call 48; refine (is_yes _ _ (by assumption) (by assumption)).mono ?_; rintro e w' ⟨rfl, rfl⟩)
    go_ret
    exact ⟨rfl, by go_grown⟩
  by_cases hk0 : 0 ≤ k
  case neg =>
    go_enter Tryz.func74, Tryz.ntmps74
    go_wp2_with (go_at_call 48; refine (is_yes _ _ (by assumption) (by assumption)).mono ?_; rintro e w' ⟨rfl, rfl⟩)
    go_ret
    exact ⟨rfl, by go_grown⟩
  by_cases hk1 : k ≤ 255
  case neg =>
    go_enter Tryz.func74, Tryz.ntmps74
    go_wp2_with (go_at_call 48; refine (is_yes _ _ (by assumption) (by assumption)).mono ?_; rintro e w' ⟨rfl, rfl⟩)
    go_ret
    exact ⟨rfl, by go_grown⟩
  by_cases hi0 : 0 ≤ i
  case neg =>
    go_enter Tryz.func74, Tryz.ntmps74
    go_wp2_with (go_at_call 48; refine (is_yes _ _ (by assumption) (by assumption)).mono ?_; rintro e w' ⟨rfl, rfl⟩)
    go_ret
    exact ⟨rfl, by go_grown⟩
  have hi1 : ¬ i ≤ 65535 := fun hi1 => H.out ⟨⟨s0, s1⟩, ⟨d0, d1⟩, ⟨ht0, ht1⟩, ⟨hk0, hk1⟩, ⟨hi0, hi1⟩⟩
  go_enter Tryz.func74, Tryz.ntmps74
  go_wp2_with (go_at_call 48; refine (is_yes _ _ (by assumption) (by assumption)).mono ?_; rintro e w' ⟨rfl, rfl⟩)
  go_ret
  exact ⟨rfl, by go_grown⟩
end Go.Proofs.YtbjogkpepfgegaaGreatDoor
