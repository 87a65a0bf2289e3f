/- The law ShiftPlays: any segments, up and down, of a stream with any head, as the document says. Conditions: the row's own: errors.errorType holds its handle (tied). -/
import Derived.Test.YtkjchddidpjjmaaDoorFrameD
import Derived.Test.YtkjchddidpjjmaaDoorOpenB
import Derived.Test.YtkjchddidpjjmaaDoorRefV
import Derived.Test.YtkjchddidpjjmaaDoorUps
import Derived.Test.YtkjchddidpjjmaaDoorSegs
import Derived.Test.YtkjchddidpjjmaaDoorSame
import Derived.Test.YtkjchddidpjjmaaDoorTie
import Derived.Test.YtkjchddidpjjmaaDoorCards
import Derived.SevenTiedAt
import Derived.Deep.DeepCutAuto
namespace Go.Proofs.YtkjchddidpjjmaaDoor.shiftPlays
open Go.ChangeShapes Go.WideShapes Go.ChangeAt Go.RowKit

theorem erv_errOf (q : Int) : errOf q = erv q := rfl
theorem begun_q (g : Nat) (h : Value) (start : Int) (begun heard : Bool) (w : World) (k : StB w g h start begun heard) :
    Calls Tryd.prog 25 #[.pointer (some ⟨g, 0, none⟩)] w fun e w' => e = .returned (.bool begun) ∧ w' = w := by
  have c2 : w.cell? ⟨g, 2, none⟩ = some (.bool begun) := Blk.cells k 2
  clear k
  go_enter Tryd.func25, Tryd.ntmps25
  go_wp2
  go_ret
  exact ⟨rfl, rfl⟩
theorem heard_q (g : Nat) (h : Value) (start : Int) (begun heard : Bool) (w : World) (k : StB w g h start begun heard) :
    Calls Tryd.prog 26 #[.pointer (some ⟨g, 0, none⟩)] w fun e w' => e = .returned (.bool heard) ∧ w' = w :=
  (heard_any g h start begun heard w k).mono fun _ _ ⟨h1, h2⟩ => ⟨h1, h2.symm⟩
/-- Bytes, when another block is written anew. -/
theorem Ints.byRow {k : IntKind} {w : World} {a : Option Addr} {n : Nat} {xs : List Int} {g : Nat} (h : Ints k w a n xs) (cs : Array Value) (hg : 0 < n → ∀ p, a = some p → p.block ≠ g) : Ints k (w.setRow g cs) a n xs := by
  by_cases hn : 0 < n
  · obtain ⟨b, off, rfl, hb, hc⟩ := h.at hn
    exact ⟨h.1, .inr ⟨b, off, rfl, fun i hi => (World.cell?_of_block (setRow_other w g b cs (hg hn _ rfl))).trans (hc i hi)⟩⟩
  · obtain rfl : n = 0 := by omega
    obtain rfl : xs = [] := List.length_eq_zero_iff.1 h.len
    exact Ints.nil

set_option maxRecDepth 100000 in
set_option maxHeartbeats 8000000 in
theorem walk (a0 : Option Addr) (n0 c0 : Nat) (x0 : List Int) (a1 : Option Addr) (n1 c1 : Nat) (b1 : List Sd) (a2 : Option Addr) (n2 c2 : Nat) (b2 : List Bool) (w : World) (hg : Handle w) (w0 : IsBytes w a0 n0 c0 x0 ∧ (a0 = none → c0 = 0)) (w1 : IsSegs w a1 n1 c1 b1) (w2 : IsBools w a2 n2 b2) :
    Calls Tryd.prog 4 #[.slice a0 n0 c0, .slice a1 n1 c1, .slice a2 n2 c2] w fun e w' => e = .returned (.bool true) ∧ Below w.heap.size w w' := by
  obtain ⟨⟨hb, _, _, _⟩, h0c⟩ := w0
  have HB := Lib.hid hb
  have HS := Lib.hid w1
  have HD := Lib.hid w2
  have HC := Lib.hid h0c
  have HGG := Lib.hid hg
  clear hb w1 w2 h0c hg
  go_enter Tryd.func4, Tryd.ntmps4
  go_wp2_with fail
  by_cases hn : n0 ≤ 100
  case neg =>
    refine (new_full a0 n0 c0 w (by omega)).mono ?_
    rintro e W1 ⟨rfl, q1⟩
    have hnI : (100 : Int) < (n0 : Int) := by omega
    clear hn
    go_wp2_with fail
    refine (err_same 3 W1 (HGG.out.below q1)).mono ?_
    rintro e W2 ⟨rfl, q2⟩
    have E2 : Ext w W2 := Ext.trans q1 q2
    go_wp2_with fail
    go_ret
    exact ⟨rfl, E2⟩
  refine (new_ok a0 n0 c0 x0 w hn HB.out HC.out).mono ?_
  rintro e W1 ⟨g, h, rfl, hgw, K1, O1, hk1, E1⟩
  obtain ⟨ha, hm, hc, rfl, _, i1⟩ := O1.read
  obtain rfl : n0 = hm := HB.out.len.symm.trans O1.len
  have hnI : ¬ (100 : Int) < (n0 : Int) := by omega
  have HN := Lib.hid hn
  have hag : ∀ p, ha = some p → w.heap.size ≤ p.block ∧ p.block < g := fun p hp => ⟨(O1.lt p.block (by rw [hp]; rfl)).1, hk1 p.block (by rw [hp]; rfl)⟩
  have HAG := Lib.hid hag
  have hgl := Blk.lt K1
  have KM := Blk.new W1 48 #[.slice a0 n0 c0, .int .i64 0, .bool false, .bool false]
  have K2 := Blk.alloc K1 (.cells #[.slice a0 n0 c0, .int .i64 0, .bool false, .bool false] 48)
  have E2 := E1.alloc (.cells #[.slice a0 n0 c0, .int .i64 0, .bool false, .bool false] 48)
  have i2 := i1.ext ((Ext.refl W1).alloc (.cells #[.slice a0 n0 c0, .int .i64 0, .bool false, .bool false] 48))
  have hwm : w.heap.size ≤ W1.heap.size := E1.size
  clear hn hag hk1 O1 i1 K1 E1
  go_wp2_with fail
  generalize W1.heap.size = gm at *
  go_loopw [10] (fun i wr => ∃ (k : Nat) (st : Int) (bg hd : Bool), k ≤ n1 ∧ i = .int .i64 k ∧ Ext w wr ∧ (0 ≤ st ∧ st < 4294967296) ∧ StB wr g (.slice ha n0 hc) st bg hd ∧ StR wr gm (.slice a0 n0 c0) st bg hd ∧ Ints .u8 wr ha n0 x0) (fun i _ => n1 - (intOf i).toNat)
  case atStart => exact ⟨0, 0, false, false, Nat.zero_le _, rfl, E2, ⟨by decide, by decide⟩, K2, KM, i2⟩
  case round =>
    obtain ⟨k, st, bg, hd, hk, rfl, Er, hst, Kr, Rr, Ir⟩ := hrel
    clear E2 K2 KM i2
    by_cases hk2 : k < n1
    case neg =>
      have hkn : ¬ (k : Int) < (n1 : Int) := by omega
      go_wp2_with fail
      go_ret
      exact ⟨rfl, Er⟩
    by_cases hk4 : k < 40
    case neg =>
      have hkn : ¬ (k : Int) < 40 := by omega
      have hkm : (k : Int) < (n1 : Int) := by omega
      go_wp2_with fail
      go_ret
      exact ⟨rfl, Er⟩
    have HST := Lib.hid hst
    have hx0 : Ints .u8 w (b1.getD k default).a (b1.getD k default).n (b1.getD k default).xs := by
      obtain ⟨_, _, _, _, hat0⟩ := HS.out.at (Ext.refl w) (by omega)
      exact (hat0 k hk2).1.1.1
    have HLD := Lib.hid (fun (W : World) (E : Ext w W) => (show ∃ b off, a1 = some ⟨b, off, none⟩ ∧ (Instr.loadAt 50 (.pointer (some ⟨b, off + k * 8, none⟩))).run Tryd.prog W = .ok (.agg ((b1.getD k default).s.cells (b1.getD k default).d)) W from by
      obtain ⟨b, off, rfl, hbl, hat⟩ := HS.out.at E (by omega)
      exact ⟨b, off, rfl, load_seg (b := b) (off := off + k * 8) _ _ (fun j hj => by rw [Nat.add_assoc]; exact (hat k hk2).2 j hj)⟩))
    have hyc : (b1.getD k default).a = none → (b1.getD k default).c = 0 := by
      obtain ⟨_, _, _, _, hat0⟩ := HS.out.at (Ext.refl w) (by omega)
      exact (hat0 k hk2).1.2.1
    have HBI : Hid (∀ (W : World), Ext w W → k < n2 → ∃ b off, a2 = some ⟨b, off, none⟩ ∧ W.cell? ⟨b, off + k, none⟩ = some (.bool (b2.getD k false))) := Lib.hid (fun W E hkn => by
      obtain ⟨b, off, rfl, hbl, hat⟩ := HD.out.at E (by omega)
      exact ⟨b, off, rfl, hat k hkn⟩)
    obtain ⟨bb, off, rfl, -⟩ := HLD.out w (Ext.refl w)
    have HL2 := Lib.hid (fun (W : World) (E : Ext w W) => (show (Instr.loadAt 50 (.pointer (some ⟨bb, off + k * 8, none⟩))).run Tryd.prog W = .ok (.agg ((b1.getD k default).s.cells (b1.getD k default).d)) W from by
      obtain ⟨b, o, he, hl⟩ := HLD.out W E
      cases he
      exact hl))
    clear HLD
    generalize b1.getD k default = y at *
    obtain ⟨s, ya, yn, yc, ys⟩ := y
    dsimp only [Sd.d] at hx0 hyc HL2
    generalize b2.getD k false = bit at *
    have HX := Lib.hid hx0
    have HXC := Lib.hid hyc
    have HYG : Hid (0 < yn → ∀ p, ya = some p → p.block < w.heap.size) := Lib.hid (fun h0 p hp => by
      obtain ⟨b, o, rfl, hb, _⟩ := hx0.at h0
      cases hp
      exact hb)
    clear hx0 hyc hst
    have hkn : (k : Int) < (n1 : Int) := by omega
    have hk40 : (k : Int) < 40 := by omega
    -- the two variables of the round
    have X1 := (Blk.new wr 50 #[.int .i64 0, .int .i64 0, .int .i64 0, .int .i64 0, .int .i64 0, .int .i64 0, .int .i64 0, .slice none 0 0]).alloc (.cells #[.int .i64 0, .int .i64 0, .int .i64 0, .int .i64 0, .int .i64 0, .int .i64 0, .int .i64 0, .slice none 0 0] 50)
    have X2 := Blk.at (n := wr.heap.size + 1) (wr.alloc (.cells #[.int .i64 0, .int .i64 0, .int .i64 0, .int .i64 0, .int .i64 0, .int .i64 0, .int .i64 0, .slice none 0 0] 50)) 50 #[.int .i64 0, .int .i64 0, .int .i64 0, .int .i64 0, .int .i64 0, .int .i64 0, .int .i64 0, .slice none 0 0] (by simp)
    have EX := (Er.alloc (.cells #[.int .i64 0, .int .i64 0, .int .i64 0, .int .i64 0, .int .i64 0, .int .i64 0, .int .i64 0, .slice none 0 0] 50)).alloc (.cells #[.int .i64 0, .int .i64 0, .int .i64 0, .int .i64 0, .int .i64 0, .int .i64 0, .int .i64 0, .slice none 0 0] 50)
    have KX := Blk.alloc (Blk.alloc Kr (.cells #[.int .i64 0, .int .i64 0, .int .i64 0, .int .i64 0, .int .i64 0, .int .i64 0, .int .i64 0, .slice none 0 0] 50)) (.cells #[.int .i64 0, .int .i64 0, .int .i64 0, .int .i64 0, .int .i64 0, .int .i64 0, .int .i64 0, .slice none 0 0] 50)
    have RX := Blk.alloc (Blk.alloc Rr (.cells #[.int .i64 0, .int .i64 0, .int .i64 0, .int .i64 0, .int .i64 0, .int .i64 0, .int .i64 0, .slice none 0 0] 50)) (.cells #[.int .i64 0, .int .i64 0, .int .i64 0, .int .i64 0, .int .i64 0, .int .i64 0, .int .i64 0, .slice none 0 0] 50)
    have IX := Ir.ext (((Ext.refl wr).alloc (.cells #[.int .i64 0, .int .i64 0, .int .i64 0, .int .i64 0, .int .i64 0, .int .i64 0, .int .i64 0, .slice none 0 0] 50)).alloc (.cells #[.int .i64 0, .int .i64 0, .int .i64 0, .int .i64 0, .int .i64 0, .int .i64 0, .int .i64 0, .slice none 0 0] 50))
    have hgr := Blk.lt Kr
    have hmr := Blk.lt Rr
    have hwr := Er.size
    clear Er Kr Rr Ir
    go_upto_region 13 with (fail)
    refine at_worldC (fun W => Ext w W ∧ Blk W wr.heap.size 50 #[.int .i64 0, .int .i64 0, .int .i64 0, .int .i64 0, .int .i64 0, .int .i64 0, .int .i64 0, .slice none 0 0] ∧ Blk W (wr.heap.size + 1) 50 #[.int .i64 0, .int .i64 0, .int .i64 0, .int .i64 0, .int .i64 0, .int .i64 0, .int .i64 0, .slice none 0 0] ∧ StB W g (.slice ha n0 hc) st bg hd ∧ StR W gm (.slice a0 n0 c0) st bg hd ∧ Ints .u8 W ha n0 x0) ⟨EX, X1, X2, KX, RX, IX⟩ ?_
    clear EX X1 X2 KX RX IX
    rintro W0 ⟨EX, X1, X2, KX, RX, IX⟩
    generalize wr.heap.size = bx at *
    obtain ⟨D, hD⟩ : ∃ D, (decide (k < n2) && bit) = D := ⟨_, rfl⟩
    have HDD := Lib.hid hD
    go_cut [51] (fun b wc => W0 = wc ∧ b = .bool D)
    case first =>
      by_cases hkd : k < n2
      · obtain ⟨b, o, rfl, hcb⟩ := HBI.out W0 EX hkd
        have hkdI : (k : Int) < (n2 : Int) := by omega
        have HR := Lib.hid (show bit = D by rw [← hD, decide_eq_true hkd]; rfl)
        clear hD hkd
        go_wp2_with fail
        go_meet
        exact ⟨rfl, by rw [HR.out]⟩
      · have hkdI : ¬ (k : Int) < (n2 : Int) := by omega
        have HR := Lib.hid (show D = false by rw [← hD, decide_eq_false hkd]; rfl)
        clear hD hkd
        go_wp2_with fail
        go_meet
        exact ⟨rfl, by rw [HR.out]⟩
    obtain ⟨rfl, rfl⟩ := hcut
    clear hD HDD
    go_upto_if 51 with (fail)
    go_cut [13, 14] (fun e err wc => ∃ (q : Int) (s' : Sg) (xs' : List Int) (p1 p2 : Option Addr) (l1 r1 l2 r2 : Nat) (st' : Int) (bg' hd' : Bool), e = .int .i64 q ∧ err = erv q ∧ Ext w wc ∧ Blk wc bx 50 (s'.cells (.slice p1 l1 r1)) ∧ Blk wc (bx + 1) 50 (s'.cells (.slice p2 l2 r2)) ∧ Ints .u8 wc p1 l1 xs' ∧ Ints .u8 wc p2 l2 xs' ∧ (0 ≤ st' ∧ st' < 4294967296) ∧ StB wc g (.slice ha n0 hc) st' bg' hd' ∧ StR wc gm (.slice a0 n0 c0) st' bg' hd' ∧ Ints .u8 wc ha n0 x0)
    case first =>
      have HGM : Hid (0 < yn → ∀ p, ya = some p → p.block ≠ gm) := Lib.hid (fun h0 p hp => by have := HYG.out h0 p hp; omega)
      cases D
      case' false =>
        have HRES := Lib.hid (show ∃ r : Pl.Res, (0 ≤ r.start ∧ r.start < 4294967296) ∧
            (∀ W, StR W gm (.slice a0 n0 c0) st bg hd → Ints .u8 W ya yn ys → Ints .u8 W a0 n0 x0 → Calls Tryd.prog 22 #[.pointer (some ⟨gm, 0, none⟩), s.v (.slice ya yn yc)] W fun e w' => RefGot W gm (.slice a0 n0 c0) ya yn r e w') ∧
            (∀ W, StB W g (.slice ha n0 hc) st bg hd → Ints .u8 W ya yn ys → Ints .u8 W ha n0 x0 → Calls Tryd.prog 23 #[.pointer (some ⟨g, 0, none⟩), s.v (.slice ya yn yc)] W fun e w' => ResGot W g (.slice ha n0 hc) r e w') from
          ⟨Pl.up x0 st bg hd s ys, Pl.up_start HST.out, fun W K hX hA => rup_res gm a0 n0 c0 x0 st bg hd s ya yn yc ys W K HST.out hA hX HGM.out HN.out, fun W K hX hH => up_res g ha n0 hc x0 st bg hd s ya yn yc ys W K HST.out hH hX HXC.out HN.out⟩)
      case' true =>
        have HRES := Lib.hid (show ∃ r : Pl.Res, (0 ≤ r.start ∧ r.start < 4294967296) ∧
            (∀ W, StR W gm (.slice a0 n0 c0) st bg hd → Ints .u8 W ya yn ys → Ints .u8 W a0 n0 x0 → Calls Tryd.prog 20 #[.pointer (some ⟨gm, 0, none⟩), s.v (.slice ya yn yc)] W fun e w' => RefGot W gm (.slice a0 n0 c0) ya yn r e w') ∧
            (∀ W, StB W g (.slice ha n0 hc) st bg hd → Ints .u8 W ya yn ys → Ints .u8 W ha n0 x0 → Calls Tryd.prog 21 #[.pointer (some ⟨g, 0, none⟩), s.v (.slice ya yn yc)] W fun e w' => ResGot W g (.slice ha n0 hc) r e w') from
          ⟨Pl.down st bg hd s ys, by rw [Pl.down_start]; exact HST.out, fun W K hX _ => rdown_res gm (.slice a0 n0 c0) st bg hd s ya yn yc ys W K HST.out hX HGM.out, fun W K hX _ => down_res g (.slice ha n0 hc) st bg hd s ya yn yc ys W K HST.out hX HXC.out⟩)
      all_goals
        obtain ⟨r, hrs, href, hcod⟩ := HRES.out
        have HRS := Lib.hid hrs
        have HREF := Lib.hid href
        have HCOD := Lib.hid hcod
        clear HRES hrs href hcod
        have ld0 := HL2.out W0 EX
        go_wp2_with ((apply load_by rfl _ _ rfl _ rfl); (focus (with_reducible assumption)))
        refine (HREF.out W0 RX (HX.out.ext EX) (HB.out.ext EX)).mono ?_
        rintro e W1 ⟨p2, l2, r2, rfl, I2, hp2, R1, G1⟩
        have hz0 := X2.lt
        have hz1 := G1.size
        have E1 : Ext w W1 := Below.only EX G1 EX.size (by omega)
        have Y1 := X1.only G1 (by omega)
        have Y2 := X2.only G1 (by omega)
        have M1 : StB W1 g (.slice ha n0 hc) st bg hd := Blk.only KX G1 (by omega)
        have IA1 := IX.only G1 (fun p hp => by have := HAG.out p hp; omega)
        have t1 := sto Y2 r.s p2 l2 r2
        have E2 := E1.row (k := bx + 1) (by omega) (r.s.cells (.slice p2 l2 r2))
        have Z1 := Y1.farRow (show bx ≠ bx + 1 by omega) (r.s.cells (.slice p2 l2 r2))
        have Z2 := Y2.row (r.s.cells (.slice p2 l2 r2))
        have M2 : StB (W1.setRow (bx + 1) (r.s.cells (.slice p2 l2 r2))) g (.slice ha n0 hc) st bg hd := Blk.farRow M1 (by omega) _
        have R2 : StR (W1.setRow (bx + 1) (r.s.cells (.slice p2 l2 r2))) gm (.slice a0 n0 c0) r.start r.begun r.heard := Blk.farRow R1 (by omega) _
        have hp2' : 0 < l2 → ∀ p, p2 = some p → p.block < w.heap.size ∨ W0.heap.size ≤ p.block := fun h0 p hp => by
          rcases hp2 p hp with ⟨h, hl⟩ | h
          · exact .inl (HYG.out (by omega) p h)
          · exact .inr h
        have J2 := Ints.byRow I2 (r.s.cells (.slice p2 l2 r2)) (g := bx + 1) (fun h0 p hp => by have := hp2' h0 p hp; omega)
        have IA2 := Ints.byRow IA1 (r.s.cells (.slice p2 l2 r2)) (g := bx + 1) (fun _ p hp => by have := HAG.out p hp; omega)
        have HJ := Lib.hid hp2'
        clear hp2 hp2' X1 X2 KX RX IX G1 Y1 Y2 M1 IA1 R1 I2 E1 EX ld0
        have ld1 := HL2.out _ E2
        go_wp2_with (first | ((apply load_by rfl _ _ rfl _ rfl); (focus (with_reducible assumption))) | ((apply store_by rfl _ _ _ rfl _ rfl); (focus (with_reducible assumption)); (focus rfl)))
        refine at_world (fun W => Ext w W ∧ Blk W bx 50 #[.int .i64 0, .int .i64 0, .int .i64 0, .int .i64 0, .int .i64 0, .int .i64 0, .int .i64 0, .slice none 0 0] ∧ Blk W (bx + 1) 50 (r.s.cells (.slice p2 l2 r2)) ∧ StB W g (.slice ha n0 hc) st bg hd ∧ StR W gm (.slice a0 n0 c0) r.start r.begun r.heard ∧ Ints .u8 W ha n0 x0 ∧ Ints .u8 W p2 l2 r.bs) ⟨E2, Z1, Z2, M2, R2, IA2, J2⟩ ?_
        clear ld1 t1 E2 Z1 Z2 M2 R2 IA2 J2
        rintro W2 ⟨E2, Z1, Z2, M2, R2, IA2, J2⟩
        refine (HCOD.out W2 M2 (HX.out.ext E2) IA2).mono ?_
        rintro e W3 ⟨p1, l1, r1, rfl, I3, hp1, M3, G3⟩
        have hz2 := Z2.lt
        have hz3 := G3.size
        have E3 : Ext w W3 := Below.only E2 G3 E2.size (by omega)
        have Y1 := Z1.only G3 (by omega)
        have Y2 := Z2.only G3 (by omega)
        have R3 : StR W3 gm (.slice a0 n0 c0) r.start r.begun r.heard := Blk.only R2 G3 (by omega)
        have IA3 := IA2.only G3 (fun p hp => by have := HAG.out p hp; omega)
        have J3 := J2.only' G3 (fun h0 p hp => by have := HJ.out h0 p hp; omega)
        have t3 := sto Y1 r.s p1 l1 r1
        have E4 := E3.row (k := bx) (by omega) (r.s.cells (.slice p1 l1 r1))
        have Q1 := Y1.row (r.s.cells (.slice p1 l1 r1))
        have Q2 := Y2.farRow (show bx + 1 ≠ bx by omega) (r.s.cells (.slice p1 l1 r1))
        have M4 : StB (W3.setRow bx (r.s.cells (.slice p1 l1 r1))) g (.slice ha n0 hc) r.start r.begun r.heard := Blk.farRow M3 (by omega) _
        have R4 : StR (W3.setRow bx (r.s.cells (.slice p1 l1 r1))) gm (.slice a0 n0 c0) r.start r.begun r.heard := Blk.farRow R3 (by omega) _
        have IA4 := Ints.byRow IA3 (r.s.cells (.slice p1 l1 r1)) (g := bx) (fun _ p hp => by have := HAG.out p hp; omega)
        have I4 := Ints.byRow I3 (r.s.cells (.slice p1 l1 r1)) (g := bx) (fun _ p hp => by have := hp1 p hp; omega)
        have J4 := Ints.byRow J3 (r.s.cells (.slice p1 l1 r1)) (g := bx) (fun h0 p hp => by have := HJ.out h0 p hp; omega)
        have HI4 := Lib.hid I4
        have HJ4 := Lib.hid J4
        have HIA4 := Lib.hid IA4
        clear G3 Y1 Y2 R3 IA3 J3 I3 M3 E3 E2 Z1 Z2 M2 R2 IA2 J2 hp1 I4 J4 IA4
        go_wp2_with ((apply store_by rfl _ _ _ rfl _ rfl); (focus (with_reducible assumption)); (focus rfl))
        go_meet
        exact ⟨r.q, r.s, r.bs, p1, p2, l1, r1, l2, r2, r.start, r.begun, r.heard, rfl, rfl, E4, Q1, Q2, HI4.out, HJ4.out, HRS.out, M4, R4, HIA4.out⟩
    obtain ⟨q, s', xs', p1, p2, l1, r1, l2, r2, st', bg', hd', rfl, rfl, E5, B1, B2, I1, I2, hst', K5, R5, IA5⟩ := hcut
    have HST' := Lib.hid hst'
    clear EX X1 X2 KX RX IX hst'
    go_wp2_with fail
    refine (err_same q _ (HGG.out.below E5)).mono ?_
    rintro e W6 ⟨rfl, q6⟩
    have q6' : Ext _ W6 := q6
    have E6 : Ext w W6 := Ext.trans E5 q6
    have l1' := (B1.ext q6').seg
    have l2' := (B2.ext q6').seg
    have HI1 := Lib.hid (I1.ext q6')
    have HI2 := Lib.hid (I2.ext q6')
    have HA6 := Lib.hid (IA5.ext q6')
    have K6 : StB W6 g (.slice ha n0 hc) st' bg' hd' := Blk.ext K5 q6'
    have R6 : StR W6 gm (.slice a0 n0 c0) st' bg' hd' := Blk.ext R5 q6'
    clear E5 B1 B2 I1 I2 K5 R5 IA5 q6 q6'
    go_wp2_with ((apply load_by rfl _ _ rfl _ rfl); (focus (with_reducible assumption)))
    refine (segs_yes s' p1 p2 l1 r1 l2 r2 xs' W6 HI1.out HI2.out).mono ?_
    rintro e W7 ⟨rfl, q7⟩
    have E7 := E6.trans q7
    have K7 : StB W7 g (.slice ha n0 hc) st' bg' hd' := Blk.ext K6 q7
    have R7 : StR W7 gm (.slice a0 n0 c0) st' bg' hd' := Blk.ext R6 q7
    have HA7 := Lib.hid (HA6.out.ext q7)
    have cb2 : W7.cell? ⟨gm, 2, none⟩ = some (.bool bg') := Blk.cells R7 2
    have cb3 : W7.cell? ⟨gm, 3, none⟩ = some (.bool hd') := Blk.cells R7 3
    have e1 : (bg' != bg') = false := by simp
    have e2 : (hd' != hd') = false := by simp
    clear l1' l2' K6 R6 q7 E6 HI1 HI2 HA6
    go_wp2_with fail
    go_quiet (first
      | (go_at_call 25; exact Calls.quiet_of_same (begun_q g _ _ _ _ _ (Blk.drewN K7 _)))
      | (go_at_call 26; exact Calls.quiet_of_same (heard_q g _ _ _ _ _ (Blk.drewN K7 _))))
    go_wp2_with fail
    go_roundw
    case rel => exact ⟨k + 1, st', bg', hd', by omega, by go_num, E7.drewN _, HST'.out, Blk.drewN K7 _, Blk.drewN R7 _, HA7.out.drewN _⟩
    case measure => simp [intOf] <;> omega
set_option maxRecDepth 100000 in
theorem lifted (os : Os) (started : os.Started) (H : Type) (enc : TypeId × Value → H) :
    ReturnsInHanded {} Tryd.checked os 4 .any (fun w args => (Rows.shiftPlaysSpec.pre enc Tryd.prog Tryd.f4 [] false w args ∧ laidMetH Tryd.prog laid w) ∧ sizedMet enc Tryd.prog Tryd.f4 (OpenSpec.ofChange Rows.shiftPlaysSpec) false w args)
      (Rows.shiftPlaysSpec.post enc Tryd.prog Tryd.f4 false true false false) := by
  refine returnsInHanded_of_change_and (C := Tryd.checked) (X := fun w _ => laidMetH Tryd.prog laid w) (fun _ _ _ hh h => h.of_heap hh) own started (by kernel_rfl) Tryd.func4
    (ChangeSpec.witness_at (enc := enc) (C := Tryd.checked) (os := os) (X := fun w _ => laidMetH Tryd.prog laid w) false (laidWorld os) #[.slice none 0 0, .slice none 0 0, .slice none 0 0] 8 rfl (by kernel_rfl) (by kernel_rfl) (by kernel_rfl) (by kernel_rfl) (by kernel_rfl) (laidWorld_met os _)) ?_
  intro W base args ds gs before hval0 hW _ _ hL _
  have hval : ∀ (j : Nat) t v, Tryd.f4.params[j]? = some t → args[j]? = some v → Value.okWide Tryd.prog W .any base t v := hval0
  have hW' := hW
  obtain ⟨p, q, hA0, hV0, rfl, hfz, hnd⟩ := hW
  have hA : DataW.TrodAll enc Tryd.prog W 0 (fun _ => true) true Tryd.f4.params.toList args.toList ds p := hA0
  have hV : DataW.TrodVars enc Tryd.prog W (fun _ => true) [] gs q := hV0
  have hg := handle_of_laid hL
  rw [Tryd.params4] at hA hval
  obtain ⟨v0, vs0, d0, ds0, p0, q0, hargs, rfl, rfl, h0, r0⟩ := trodAll_cons hA
  obtain ⟨v1, vs1, d1, ds1, p1, q1, rfl, rfl, rfl, h1, r1⟩ := trodAll_cons r0
  obtain ⟨v2, vs2, d2, ds2, p2, q2, rfl, rfl, rfl, h2, r2⟩ := trodAll_cons r1
  obtain ⟨rfl, rfl, rfl⟩ := trodAll_nil r2
  obtain rfl : args = #[v0, v1, v2] := by cases args; simp_all
  obtain ⟨rfl, rfl⟩ := vars_nil hV
  have lt0 : ∀ x ∈ p0, x.block < W.heap.size := by obtain ⟨m, hm⟩ := h0; exact DataW.trod_lt m _ _ _ hm
  have k0 := h0
  obtain ⟨a0, n0, c0, rfl⟩ := okWide_slice Tryd.underlying40 (hval 0 40 v0 rfl rfl)
  obtain ⟨x0, w0⟩ := open_bytesz h0
  have lt1 : ∀ x ∈ p1, x.block < W.heap.size := by obtain ⟨m, hm⟩ := h1; exact DataW.trod_lt m _ _ _ hm
  have k1 := h1
  obtain ⟨a1, n1, c1, rfl⟩ := okWide_slice Tryd.underlying41 (hval 1 41 v1 rfl rfl)
  obtain ⟨b1, w1⟩ := open_segs h1
  have lt2 : ∀ x ∈ p2, x.block < W.heap.size := by obtain ⟨m, hm⟩ := h2; exact DataW.trod_lt m _ _ _ hm
  have k2 := h2
  obtain ⟨a2, n2, c2, rfl⟩ := okWide_slice Tryd.underlying42 (hval 2 42 v2 rfl rfl)
  obtain ⟨b2, w2⟩ := open_bools h2
  clear hA0 hval0
  refine (walk a0 n0 c0 x0 a1 n1 c1 b1 a2 n2 c2 b2 W hg w0 w1 w2).mono fun e W' ⟨he, bel⟩ => ?_
  subst he
  exact ⟨_, rfl, _, _, _, [], _, [], hW', trodAll_mk1 (shut_bool Tryd.underlying4 _), (trodAll_cons_mk (Below.trod laidOut (by kernel_rfl) (of_decide_eq_true (by kernel_rfl)) k0 bel lt0) (trodAll_cons_mk (Below.trod laidOut (by kernel_rfl) (of_decide_eq_true (by kernel_rfl)) k1 bel lt1) (trodAll_cons_mk (Below.trod laidOut (by kernel_rfl) (of_decide_eq_true (by kernel_rfl)) k2 bel lt2) trodAll_mk0))), rfl, bel.frame _, fun h => by cases h⟩

theorem over : Rows.shiftPlaysRow.holds Tryd.pinned (OpenSpec.ofChange Rows.shiftPlaysSpec) :=
  OpenClaim.holds_of_wide 4 Tryd.f4 rfl rfl rfl rfl rfl rfl rfl ⟨rfl, rfl, rfl, rfl, rfl⟩ rfl rfl rfl rfl rfl (by kernel_rfl) Tryd.func4 (by kernel_rfl)
    (of_decide_eq_true (by kernel_rfl)) (by unfold Func.isWrapper; first | (rw [if_pos (by decide +kernel)]; kernel_rfl) | (rw [if_neg (by decide +kernel)]; exact ⟨rfl, rfl⟩))
    (fun os started H enc _ => lifted os started H enc)

/-- THE STATEMENT. -/
theorem proved : Rows.ShiftPlaysCardSaid :=
  Claim7.holds_tied_plain_at .later [] _ _ _ _
    over (fun _ h => by cases h) (by kernel_rfl) (fun _ h => by cases h) shiftPlays_row_tie rfl ⟨rfl, rfl⟩ (by kernel_rfl) rfl
    (fun f fn hf hfn => by
      obtain rfl : f = 4 := Option.some.inj ((show Tryd.prog.funcNamed "gangplank/gangplanklaw2.ShiftPlays" = some 4 by kernel_rfl).symm.trans hf) |>.symm
      obtain rfl : fn = Tryd.f4 := (Option.some.inj (Tryd.func4.symm.trans hfn)).symm
      exact ⟨by kernel_rfl, fun j t ht => by
        rw [Tryd.params4] at ht
        have hall : ((#[40, 41, 42] : Array Nat).all fun t => !Tryd.prog.wantsStandIn t) = true := by kernel_rfl
        have := Array.all_eq_true'.1 hall t (Array.mem_of_getElem? ht)
        show Tryd.prog.wantsStandIn t = false
        simpa using this⟩)
    (by kernel_rfl)
#print axioms proved
end Go.Proofs.YtkjchddidpjjmaaDoor.shiftPlays
