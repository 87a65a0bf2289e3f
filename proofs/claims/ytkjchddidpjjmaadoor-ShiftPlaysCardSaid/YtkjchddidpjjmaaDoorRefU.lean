/- The document's answers on streams with heads: Up, of a SYN. Conditions: as each theorem states them. -/
import Derived.Test.YtkjchddidpjjmaaDoorRefT
namespace Go.Proofs.YtkjchddidpjjmaaDoor
open Go.RowKit
theorem Pl.sf_parts {s : Sg} {n : Nat} (h : Pl.shFault s n = 0) : Pl.segFault s n = 0 ∧ s.kind = 6 := by
  unfold Pl.shFault at h
  by_cases h1 : Pl.segFault s n = 0
  · refine ⟨h1, ?_⟩
    rw [if_neg (by simpa using h1)] at h
    by_cases h2 : s.kind = 6
    · exact h2
    · rw [if_pos h2] at h; cases h
  · rw [if_pos h1] at h; exact absurd h h1
theorem up_syn_val {hx : List Int} {start : Int} {begun heard : Bool} {s : Sg} (hf : Pl.shFault s 0 = 0) (hS : s.flags / 2 % 2 = 1) :
    Pl.up hx start begun heard s [] = ⟨0, { s with seq := ser (s.seq - hx.length) }, [], ser (s.seq + 1), true, if begun = true ∧ start = ser (s.seq + 1) then heard else false⟩ := by
  have h0 : Pl.shFault s ([] : List Int).length = 0 := hf
  unfold Pl.up
  rw [h0, if_neg (by decide), if_pos hS, if_pos (show ([] : List Int).length = 0 from rfl)]
set_option maxRecDepth 100000 in
set_option maxHeartbeats 4000000 in
theorem rup_syn (g : Nat) (ha : Option Addr) (hn hc : Nat) (hx : List Int) (start : Int) (begun heard : Bool) (s : Sg) (a : Option Addr) (c : Nat) (w : World) (K : StR w g (.slice ha hn hc) start begun heard)
    (hdx : Ints .u8 w a 0 []) (hl : hx.length = hn) (hh : hn ≤ 100) (hf : Pl.shFault s 0 = 0) (hS : s.flags / 2 % 2 = 1) :
    Calls Tryd.prog 22 #[.pointer (some ⟨g, 0, none⟩), s.v (.slice a 0 c)] w fun e w' => RefGot w g (.slice ha hn hc) a 0 (Pl.up hx start begun heard s []) e w' := by
  have KB := Blk.new w 50 (s.cells (.slice a 0 c))
  have KB1 := KB.alloc (.cells #[.int .i64 0, .int .i64 0, .int .i64 0, .int .i64 0, .int .i64 0, .int .i64 0, .int .i64 0, .slice none 0 0] 50)
  have lB := KB1.seg
  have HX := Lib.hid hdx
  have HK := Lib.hid K
  have hgl := Blk.lt K
  obtain ⟨hq, hk⟩ := Pl.sf_parts hf
  have HQ := Lib.hid hq
  obtain ⟨-, ⟨q0, q1⟩, -, ⟨f0, f1⟩, -⟩ := shFault_ok hf
  have HR := Lib.hid (up_syn_val (hx := hx) (start := start) (begun := begun) (heard := heard) hf hS)
  rw [hl] at HR
  have hkb : (s.kind != 6) = false := by simpa using hk
  have hSb : (s.flags / 2 % 2 == 1) = true := by simpa using hS
  have eq1 : IntKind.i64.wrap (s.flags.tdiv 2) = s.flags / 2 := by rw [Int.tdiv_eq_ediv_of_nonneg f0]; exact IntWalk.i64_in _ (by omega)
  have eq2 : IntKind.i64.wrap ((s.flags / 2).tmod 2) = 1 := by rw [Int.tmod_eq_emod_of_nonneg (by omega), IntWalk.i64_in _ (by omega), hS]
  have es1 : IntKind.i64.wrap (s.seq + 1) = s.seq + 1 := IntWalk.i64_in _ (by omega)
  have es2 : (s.seq + 1).tmod 4294967296 = ser (s.seq + 1) := Int.tmod_eq_emod_of_nonneg (by omega)
  have es3 : IntKind.i64.wrap (ser (s.seq + 1)) = ser (s.seq + 1) := IntWalk.i64_in _ (by unfold ser; omega)
  have HL := Lib.hid (fun W => less_any s.seq hn W ⟨q0, q1⟩ (by omega))
  generalize ser (s.seq + 1) = z at *
  generalize ser (s.seq - hn) = y at *
  clear hdx K hl hh hf hS hq hk q0 q1
  go_enter Tryd.func22, Tryd.ntmps22
  go_wp2_with ((apply load_by rfl _ _ rfl _ rfl); (focus (with_reducible assumption)))
  refine at_world (fun W => Ext w W ∧ Blk W (w.heap.size + 1) 50 #[.int .i64 0, .int .i64 0, .int .i64 0, .int .i64 0, .int .i64 0, .int .i64 0, .int .i64 0, .slice none 0 0] ∧ Blk W w.heap.size 50 (s.cells (.slice a 0 c))) ⟨((Ext.refl w).alloc _).alloc _, Blk.at _ _ _ (by simp), KB1⟩ ?_
  rintro W1 ⟨E1, KR, KS⟩
  clear KB KB1 lB
  refine (rsegFault_any s a 0 c W1).mono ?_
  rintro e W2 ⟨rfl, q2⟩
  rw [HQ.out]
  have E2 := E1.trans q2
  have KR2 := KR.ext q2
  have KS2 := KS.ext q2
  have KG2 : StR W2 g (.slice ha hn hc) start begun heard := Blk.ext HK.out E2
  clear KR KS q2 E1
  obtain ⟨d0, d1, d2, d3, d4, d5, d6, d7⟩ := KS2.sg
  have b0 : W2.cell? ⟨g, 0, none⟩ = some (.slice ha hn hc) := Blk.cells KG2 0
  have b1 : W2.cell? ⟨g, 1, none⟩ = some (.int .i64 start) := Blk.cells KG2 1
  have b2 : W2.cell? ⟨g, 2, none⟩ = some (.bool begun) := Blk.cells KG2 2
  have b3 : W2.cell? ⟨g, 3, none⟩ = some (.bool heard) := Blk.cells KG2 3
  have hR1 : ¬ w.heap.size + 1 = w.heap.size := by omega
  have hR2 : ¬ w.heap.size + 1 = g := by omega
  have hR3 : ¬ g = w.heap.size := by omega
  have hR4 : ¬ w.heap.size = g := by omega
  have fG1 : W2.frozen? ⟨g, 1, none⟩ = false := Blk.free KG2 1
  have fG2 : W2.frozen? ⟨g, 2, none⟩ = false := Blk.free KG2 2
  have fG3 : W2.frozen? ⟨g, 3, none⟩ = false := Blk.free KG2 3
  -- what lies where at the call of less, and behind it
  have REST : ∀ (hd : Bool) (W : World), w.grownBy W (some g) → Blk W (w.heap.size + 1) 50 #[.int .i64 0, .int .i64 0, .int .i64 0, .int .i64 0, .int .i64 0, .int .i64 0, .int .i64 0, .slice none 0 0] → Blk W w.heap.size 50 (s.cells (.slice a 0 c)) → StR W g (.slice ha hn hc) z true hd →
      (Instr.loadAt 50 (.pointer (some ⟨w.heap.size, 0, none⟩))).run Tryd.prog (W.setCell ⟨w.heap.size, 3, none⟩ (.int .i64 y)) = .ok (.agg ({ s with seq := y }.cells (.slice a 0 c))) (W.setCell ⟨w.heap.size, 3, none⟩ (.int .i64 y)) ∧
      (Instr.storeAt 50 (.pointer (some ⟨w.heap.size + 1, 0, none⟩)) (.agg ({ s with seq := y }.cells (.slice a 0 c)))).run Tryd.prog (W.setCell ⟨w.heap.size, 3, none⟩ (.int .i64 y)) = .ok () ((W.setCell ⟨w.heap.size, 3, none⟩ (.int .i64 y)).setRow (w.heap.size + 1) ({ s with seq := y }.cells (.slice a 0 c))) ∧
      W.frozen? ⟨w.heap.size, 3, none⟩ = false ∧ W.cell? ⟨w.heap.size, 3, none⟩ = some (.int .i64 s.seq) ∧ w.heap.size < W.heap.size ∧
      Blk (W.setCell ⟨w.heap.size, 3, none⟩ (.int .i64 y)) (w.heap.size + 1) 50 #[.int .i64 0, .int .i64 0, .int .i64 0, .int .i64 0, .int .i64 0, .int .i64 0, .int .i64 0, .slice none 0 0] ∧ StR ((W.setCell ⟨w.heap.size, 3, none⟩ (.int .i64 y)).setRow (w.heap.size + 1) ({ s with seq := y }.cells (.slice a 0 c))) g (.slice ha hn hc) z true hd ∧
      w.grownBy ((W.setCell ⟨w.heap.size, 3, none⟩ (.int .i64 y)).setRow (w.heap.size + 1) ({ s with seq := y }.cells (.slice a 0 c))) (some g) := fun hd W G KR KS KG => by
    have KS5 : Blk (W.setCell ⟨w.heap.size, 3, none⟩ (.int .i64 y)) w.heap.size 50 ({ s with seq := y }.cells (.slice a 0 c)) := KS.put 3 _
    have KR5 := KR.far (p := ⟨w.heap.size, 3, none⟩) hR1 (.int .i64 y)
    have KG5 := Blk.far KG (p := ⟨w.heap.size, 3, none⟩) hR3 (.int .i64 y)
    have G5 := only_new G (p := ⟨w.heap.size, 3, none⟩) (Nat.le_refl _) (.int .i64 y)
    exact ⟨KS5.seg, sto KR5 { s with seq := y } a 0 c, KS.free 3, KS.cells 3, KS.lt, KR5, Blk.farRow KG5 (by omega) _, only_row G5 (by omega) _⟩
  have HREST := Lib.hid REST
  clear REST
  by_cases hb : begun = true ∧ start = z
  case pos =>
    have HE := Lib.hid (show Pl.up hx start begun heard s [] = ⟨0, { s with seq := y }, [], z, true, heard⟩ by rw [HR.out, if_pos hb])
    obtain ⟨rfl, hsz⟩ := hb
    have hszb : (start != z) = false := by simpa using hsz
    have KS4 := KS2.far (p := ⟨g, 2, none⟩) hR4 (.bool true) |>.far (p := ⟨g, 1, none⟩) hR4 (.int .i64 z)
    have KR4 := KR2.far (p := ⟨g, 2, none⟩) hR2 (.bool true) |>.far (p := ⟨g, 1, none⟩) hR2 (.int .i64 z)
    have KG4 : StR ((W2.setCell ⟨g, 2, none⟩ (.bool true)).setCell ⟨g, 1, none⟩ (.int .i64 z)) g (.slice ha hn hc) z true heard := (Blk.put KG2 2 _).put 1 _
    have G4 := only_set (only_set (E2.only g) 2 (.bool true)) 1 (.int .i64 z)
    clear hsz HR KS2 KR2 KG2 E2
    go_wp2_with fail
    refine at_world (fun W => w.grownBy W (some g) ∧ Blk W (w.heap.size + 1) 50 #[.int .i64 0, .int .i64 0, .int .i64 0, .int .i64 0, .int .i64 0, .int .i64 0, .int .i64 0, .slice none 0 0] ∧ Blk W w.heap.size 50 (s.cells (.slice a 0 c)) ∧ StR W g (.slice ha hn hc) z true heard) ⟨G4, KR4, KS4, KG4⟩ ?_
    rintro W5 ⟨G5, KR5, KS5, KG5⟩
    clear G4 KR4 KS4 KG4 b0 b1 b2 b3 fG1 fG2 fG3 d0 d1 d2 d3 d4 d5 d6 d7
    refine (HL.out W5).mono ?_
    rintro e w' ⟨rfl, rfl⟩
    obtain ⟨l6, t6, f6, o6, z6, R6, T6, G6⟩ := HREST.out heard w' G5 KR5 KS5 KG5
    clear G5 KR5 KS5 KG5 HREST
    go_wp2_with (first | ((apply load_by rfl _ _ rfl _ rfl); (focus (with_reducible assumption))) | ((apply store_by rfl _ _ _ rfl _ rfl); (focus (with_reducible assumption)); (focus rfl)))
    refine bodyPost_ret (results_cell2 Tryd.results22 _ _ (w.heap.size + 1) 50 _ _ rfl (R6.row _) Tryd.underlying50 rfl Tryd.sizeSeg) rfl ?_
    rw [HE.out]
    exact ⟨a, _, c, rfl, Ints.nil, fun p hp => .inl ⟨hp, rfl⟩, T6, G6⟩
  case neg =>
    have HE := Lib.hid (show Pl.up hx start begun heard s [] = ⟨0, { s with seq := y }, [], z, true, false⟩ by rw [HR.out, if_neg hb])
    have hbb : begun = true → (start != z) = true := fun h => by simpa using fun h2 => hb ⟨h, h2⟩
    have KS4 := KS2.far (p := ⟨g, 3, none⟩) hR4 (.bool false) |>.far (p := ⟨g, 2, none⟩) hR4 (.bool true) |>.far (p := ⟨g, 1, none⟩) hR4 (.int .i64 z)
    have KR4 := KR2.far (p := ⟨g, 3, none⟩) hR2 (.bool false) |>.far (p := ⟨g, 2, none⟩) hR2 (.bool true) |>.far (p := ⟨g, 1, none⟩) hR2 (.int .i64 z)
    have KG4 : StR (((W2.setCell ⟨g, 3, none⟩ (.bool false)).setCell ⟨g, 2, none⟩ (.bool true)).setCell ⟨g, 1, none⟩ (.int .i64 z)) g (.slice ha hn hc) z true false := ((Blk.put KG2 3 _).put 2 _).put 1 _
    have G4 := only_set (only_set (only_set (E2.only g) 3 (.bool false)) 2 (.bool true)) 1 (.int .i64 z)
    clear hb HR KS2 KR2 KG2 E2
    cases begun
    case' true => have hszb : (start != z) = true := hbb rfl
    all_goals
      clear hbb
      go_wp2_with fail
      refine at_world (fun W => w.grownBy W (some g) ∧ Blk W (w.heap.size + 1) 50 #[.int .i64 0, .int .i64 0, .int .i64 0, .int .i64 0, .int .i64 0, .int .i64 0, .int .i64 0, .slice none 0 0] ∧ Blk W w.heap.size 50 (s.cells (.slice a 0 c)) ∧ StR W g (.slice ha hn hc) z true false) ⟨G4, KR4, KS4, KG4⟩ ?_
      rintro W5 ⟨G5, KR5, KS5, KG5⟩
      clear G4 KR4 KS4 KG4 b0 b1 b2 b3 fG1 fG2 fG3 d0 d1 d2 d3 d4 d5 d6 d7
      refine (HL.out W5).mono ?_
      rintro e w' ⟨rfl, rfl⟩
      obtain ⟨l6, t6, f6, o6, z6, R6, T6, G6⟩ := HREST.out false w' G5 KR5 KS5 KG5
      clear G5 KR5 KS5 KG5 HREST
      go_wp2_with (first | ((apply load_by rfl _ _ rfl _ rfl); (focus (with_reducible assumption))) | ((apply store_by rfl _ _ _ rfl _ rfl); (focus (with_reducible assumption)); (focus rfl)))
      refine bodyPost_ret (results_cell2 Tryd.results22 _ _ (w.heap.size + 1) 50 _ _ rfl (R6.row _) Tryd.underlying50 rfl Tryd.sizeSeg) rfl ?_
      rw [HE.out]
      exact ⟨a, _, c, rfl, Ints.nil, fun p hp => .inl ⟨hp, rfl⟩, T6, G6⟩
end Go.Proofs.YtkjchddidpjjmaaDoor
