/- The contract of Up at any stream. Conditions: as each theorem states them. -/
import Derived.Test.YtkjchddidpjjmaaDoorUpsF
namespace Go.Proofs.YtkjchddidpjjmaaDoor
open Go.RowKit
set_option maxRecDepth 100000 in
set_option maxHeartbeats 4000000 in
theorem up_syn_b (g : Nat) (ha : Option Addr) (hn hc : Nat) (start : Int) (heard : Bool) (s : Sg) (a : Option Addr) (c : Nat) (w : World) (hf : Pl.shFault s 0 = 0) (K : StB w g (.slice ha hn hc) start true heard)
    (hx : Ints .u8 w a 0 []) (hac : a = none → c = 0) (hh : hn ≤ 100) (hfl : s.flags / 2 % 2 = 1) :
    Calls Tryd.prog 23 #[.pointer (some ⟨g, 0, none⟩), s.v (.slice a 0 c)] w fun e w' =>
      SegGot w { s with seq := ser (s.seq - hn) } [] e w' ∧ StB w' g (.slice ha hn hc) (ser (s.seq + 1)) true (if start = ser (s.seq + 1) then heard else false) ∧ w.grownBy w' (some g) := by
  obtain ⟨hv, hhv⟩ : ∃ b, (if start = ser (s.seq + 1) then heard else false) = b := ⟨_, rfl⟩
  rw [hhv]
  have HV := Lib.hid (show (start = ser (s.seq + 1) → hv = heard) ∧ (¬ start = ser (s.seq + 1) → hv = false) from ⟨fun h => by rw [← hhv, if_pos h], fun h => by rw [← hhv, if_neg h]⟩)
  clear hhv
  have KB := Blk.new w 50 (s.cells (.slice a 0 c))
  have lB := (KB.alloc (.cells #[.int .i64 0, .int .i64 0, .int .i64 0, .int .i64 0, .int .i64 0, .int .i64 0, .int .i64 0, .slice none 0 0] 50)).seg
  have KB1 := KB.alloc (.cells #[.int .i64 0, .int .i64 0, .int .i64 0, .int .i64 0, .int .i64 0, .int .i64 0, .int .i64 0, .slice none 0 0] 50)
  have HF := Lib.hid hf
  obtain ⟨-, ⟨q0, q1⟩, -, ⟨f0, f1⟩, -⟩ := shFault_ok hf
  have HX := Lib.hid hx
  have HC := Lib.hid hac
  have hgl := K.lt
  have hfz : (2 * (s.flags / 2 % 2) != 0) = true := by rw [hfl]; rfl
  clear hf hx hac hfl
  go_enter Tryd.func23, Tryd.ntmps23
  go_wp2_with ((apply load_by rfl _ _ rfl _ rfl); (focus (with_reducible assumption)))
  refine at_world (fun W => Ext w W ∧ Blk W (w.heap.size + 1) 50 #[.int .i64 0, .int .i64 0, .int .i64 0, .int .i64 0, .int .i64 0, .int .i64 0, .int .i64 0, .slice none 0 0] ∧ Blk W w.heap.size 50 (s.cells (.slice a 0 c))) ⟨((Ext.refl w).alloc _).alloc _, Blk.at _ _ _ (by simp), KB1⟩ ?_
  rintro W1 ⟨E1, KR, KS⟩
  clear KB KB1 lB
  refine (shcheck_any s a 0 c W1).mono ?_
  rintro e W2 ⟨hc, q2⟩
  unfold ShChk at hc
  subst hc
  rw [HF.out, errOf_zero]
  have E2 := E1.trans q2
  have KR2 := KR.ext q2
  have KS2 := KS.ext q2
  obtain ⟨d0, d1, d2, d3, d4, d5, d6, d7⟩ := KS2.sg
  go_wp2_with fail
  clear d0 d1 d2 d3 d4 d5 d6 d7
  refine (clone_any a 0 c [] W2 (HX.out.ext E2) HC.out (by omega)).mono ?_
  rintro e W3 ⟨v, rfl, o3, q3⟩
  have o3' := o3
  obtain ⟨va, vn, vc, rfl, hvc, hvl⟩ := o3.read
  obtain rfl : 0 = vn := hvl.len
  have E3 : Ext w W3 := E2.trans q3
  have KR3 := KR2.ext q3
  have KS3 := KS2.ext q3
  have KG3 : StB W3 g (.slice ha hn hc) start true heard := Blk.ext K E3
  obtain ⟨d0, d1, d2, d3, d4, d5, d6, d7⟩ := KS3.sg
  have df7 := KS3.free 7
  have df3 := KS3.free 3
  have b0 : W3.cell? ⟨g, 0, none⟩ = some (.slice ha hn hc) := Blk.cells KG3 0
  have b1 : W3.cell? ⟨g, 1, none⟩ = some (.int .u32 start) := Blk.cells KG3 1
  have b2 : W3.cell? ⟨g, 2, none⟩ = some (.bool true) := Blk.cells KG3 2
  have b3 : W3.cell? ⟨g, 3, none⟩ = some (.bool heard) := Blk.cells KG3 3
  have g1 : W3.frozen? ⟨g, 1, none⟩ = false := Blk.free KG3 1
  have g2 : W3.frozen? ⟨g, 2, none⟩ = false := Blk.free KG3 2
  have g3 : W3.frozen? ⟨g, 3, none⟩ = false := Blk.free KG3 3
  have hfl := flag2 f0 f1
  have ew0 : IntKind.u32.wrap (hn : Int) = hn := IntWalk.u32_in _ (by omega)
  have ew1 : IntKind.u32.wrap s.seq = s.seq := IntWalk.u32_in _ (by omega)
  have ew2 : IntKind.u32.wrap (s.seq + 1) = ser (s.seq + 1) := by rw [IntKind.wrap_u32]; rfl
  have ew3 : IntKind.u32.wrap (s.seq - hn) = ser (s.seq - hn) := by rw [IntKind.wrap_u32]; rfl
  have r0 : 0 ≤ ser (s.seq - hn) ∧ ser (s.seq - hn) < 4294967296 := by unfold ser; omega
  have r1 : 0 ≤ ser (s.seq + 1) ∧ ser (s.seq + 1) < 4294967296 := by unfold ser; omega
  have ew4 : IntKind.i64.wrap (ser (s.seq - hn)) = ser (s.seq - hn) := IntWalk.i64_in _ (by omega)
  generalize hy : ser (s.seq - hn) = y at *
  generalize hz : ser (s.seq + 1) = z at *
  have HY := Lib.hid hy
  have HZ := Lib.hid hz
  clear hy hz
  have hgl' : ¬ w.heap.size = g := by omega
  have hgl2 : ¬ g = w.heap.size := by omega
  clear hvl
  by_cases hsz : start = z
  case neg =>
    have hszb : (start != z) = true := by simpa using hsz
    have HN := Lib.hid hsz
    obtain rfl : hv = false := HV.out.2 hsz
    clear hsz HV
    go_upto_region 13 with (fail)
    have hob : ∀ k, (Value.slice va 0 vc).ownBlock = some k → k ≠ w.heap.size + 1 ∧ k ≠ w.heap.size ∧ k ≠ g := fun k hk => by
      have h1 := o3.lt k hk
      have h2 := KR2.lt
      have h3 := K.lt
      omega
    have KS5 : Blk (((((W3.setCell ⟨w.heap.size, 7, none⟩ (.slice va 0 vc)).setCell ⟨g, 2, none⟩ (.bool true)).setCell ⟨g, 3, none⟩ (.bool false)).setCell ⟨g, 1, none⟩ (.int .u32 z)).setCell ⟨w.heap.size, 3, none⟩ (.int .i64 y)) w.heap.size 50 ({ s with seq := y }.cells (.slice va 0 vc)) :=
      ((((KS3.put 7 _).far (p := ⟨g, 2, none⟩) hgl' _).far (p := ⟨g, 3, none⟩) hgl' _).far (p := ⟨g, 1, none⟩) hgl' _).put 3 _
    have KG5 : StB (((((W3.setCell ⟨w.heap.size, 7, none⟩ (.slice va 0 vc)).setCell ⟨g, 2, none⟩ (.bool true)).setCell ⟨g, 3, none⟩ (.bool false)).setCell ⟨g, 1, none⟩ (.int .u32 z)).setCell ⟨w.heap.size, 3, none⟩ (.int .i64 y)) g (.slice ha hn hc) z true false :=
      Blk.far (((Blk.far KG3 (p := ⟨w.heap.size, 7, none⟩) hgl2 _).put 2 _).put 3 _ |>.put 1 _) (p := ⟨w.heap.size, 3, none⟩) hgl2 _
    have hR1 : ¬ w.heap.size + 1 = w.heap.size := by omega
    have hR2 : ¬ w.heap.size + 1 = g := by omega
    have KR5 := ((((KR3.far (p := ⟨w.heap.size, 7, none⟩) hR1 (.slice va 0 vc)).far (p := ⟨g, 2, none⟩) hR2 (.bool true)).far (p := ⟨g, 3, none⟩) hR2 (.bool false)).far (p := ⟨g, 1, none⟩) hR2 (.int .u32 z)).far (p := ⟨w.heap.size, 3, none⟩) hR1 (.int .i64 y)
    have o5 := ((((o3.off (p := ⟨w.heap.size, 7, none⟩) (fun k hk => (hob k hk).2.1) (.slice va 0 vc)).off (p := ⟨g, 2, none⟩) (fun k hk => (hob k hk).2.2) (.bool true)).off (p := ⟨g, 3, none⟩) (fun k hk => (hob k hk).2.2) (.bool false)).off (p := ⟨g, 1, none⟩) (fun k hk => (hob k hk).2.2) (.int .u32 z)).off (p := ⟨w.heap.size, 3, none⟩) (fun k hk => (hob k hk).2.1) (.int .i64 y)
    have G5 := only_new (only_set (only_set (only_set ((E3.set (p := ⟨w.heap.size, 7, none⟩) (Nat.le_refl _) (.slice va 0 vc)).only g) 2 (.bool true)) 3 (.bool false)) 1 (.int .u32 z)) (p := ⟨w.heap.size, 3, none⟩) (Nat.le_refl _) (.int .i64 y)
    have HOB := Lib.hid fun k hk => (hob k hk).1
    refine at_worldC (fun W => w.grownBy W (some g) ∧ Blk W (w.heap.size + 1) 50 #[.int .i64 0, .int .i64 0, .int .i64 0, .int .i64 0, .int .i64 0, .int .i64 0, .int .i64 0, .slice none 0 0] ∧ Blk W w.heap.size 50 ({ s with seq := y }.cells (.slice va 0 vc)) ∧ StB W g (.slice ha hn hc) z true false ∧ Own W w.heap.size (.slice va 0 vc) []) ⟨G5, KR5, KS5, KG5, o5.mono E2.size⟩ ?_
    rintro W6 ⟨G6, R6, S6, T6, O6⟩
    clear G5 KR5 KS5 KG5 o5 hob hR1 hR2 KS3 KR3 KG3 E3 o3 d0 d1 d2 d3 d4 d5 d6 d7 df7 df3 b0 b1 b2 b3 g1 g2 g3 KR KS KR2 KS2 E2 E1 q2 q3
    have l6 := S6.seg
    have t6 := sto R6 { s with seq := y } va 0 vc
    go_wp2_with (first | ((apply load_by rfl _ _ rfl _ rfl); (focus (with_reducible assumption))) | ((apply store_by rfl _ _ _ rfl _ rfl); (focus (with_reducible assumption)); (focus rfl)))
    refine bodyPost_ret (results_cell2 Tryd.results23 _ _ (w.heap.size + 1) 50 _ _ rfl (R6.row _) Tryd.underlying50 rfl Tryd.sizeSeg) rfl ?_
    rw [HY.out, HZ.out]
    refine ⟨⟨_, rfl, O6.row HOB.out _⟩, Blk.farRow T6 (by omega) _, only_row G6 (by omega) _⟩
  case pos =>
    have hszb : (start != z) = false := by simpa using hsz
    have HN := Lib.hid hsz
    obtain rfl : heard = hv := (HV.out.1 hsz).symm
    clear hsz HV
    go_upto_region 13 with (fail)
    have hob : ∀ k, (Value.slice va 0 vc).ownBlock = some k → k ≠ w.heap.size + 1 ∧ k ≠ w.heap.size ∧ k ≠ g := fun k hk => by
      have h1 := o3.lt k hk
      have h2 := KR2.lt
      have h3 := K.lt
      omega
    have hR1 : ¬ w.heap.size + 1 = w.heap.size := by omega
    have KS5 : Blk ((W3.setCell ⟨w.heap.size, 7, none⟩ (.slice va 0 vc)).setCell ⟨w.heap.size, 3, none⟩ (.int .i64 y)) w.heap.size 50 ({ s with seq := y }.cells (.slice va 0 vc)) :=
      (KS3.put 7 _).put 3 _
    have KG5 : StB ((W3.setCell ⟨w.heap.size, 7, none⟩ (.slice va 0 vc)).setCell ⟨w.heap.size, 3, none⟩ (.int .i64 y)) g (.slice ha hn hc) start true heard :=
      Blk.far (Blk.far KG3 (p := ⟨w.heap.size, 7, none⟩) hgl2 _) (p := ⟨w.heap.size, 3, none⟩) hgl2 _
    have KR5 := (KR3.far (p := ⟨w.heap.size, 7, none⟩) hR1 (.slice va 0 vc)).far (p := ⟨w.heap.size, 3, none⟩) hR1 (.int .i64 y)
    have o5 := (o3.off (p := ⟨w.heap.size, 7, none⟩) (fun k hk => (hob k hk).2.1) (.slice va 0 vc)).off (p := ⟨w.heap.size, 3, none⟩) (fun k hk => (hob k hk).2.1) (.int .i64 y)
    have E5 := (E3.set (p := ⟨w.heap.size, 7, none⟩) (Nat.le_refl _) (.slice va 0 vc)).set (p := ⟨w.heap.size, 3, none⟩) (Nat.le_refl _) (.int .i64 y)
    have HOB := Lib.hid fun k hk => (hob k hk).1
    refine at_worldC (fun W => w.grownBy W (some g) ∧ Blk W (w.heap.size + 1) 50 #[.int .i64 0, .int .i64 0, .int .i64 0, .int .i64 0, .int .i64 0, .int .i64 0, .int .i64 0, .slice none 0 0] ∧ Blk W w.heap.size 50 ({ s with seq := y }.cells (.slice va 0 vc)) ∧ StB W g (.slice ha hn hc) start true heard ∧ Own W w.heap.size (.slice va 0 vc) []) ⟨E5.only g, KR5, KS5, KG5, o5.mono E2.size⟩ ?_
    rintro W6 ⟨G6, R6, S6, T6, O6⟩
    clear E5 KR5 KS5 KG5 o5 hob hR1 KS3 KR3 KG3 E3 o3 d0 d1 d2 d3 d4 d5 d6 d7 df7 df3 b0 b1 b2 b3 g1 g2 g3 KR KS KR2 KS2 E2 E1 q2 q3
    have l6 := S6.seg
    have t6 := sto R6 { s with seq := y } va 0 vc
    go_wp2_with (first | ((apply load_by rfl _ _ rfl _ rfl); (focus (with_reducible assumption))) | ((apply store_by rfl _ _ _ rfl _ rfl); (focus (with_reducible assumption)); (focus rfl)))
    refine bodyPost_ret (results_cell2 Tryd.results23 _ _ (w.heap.size + 1) 50 _ _ rfl (R6.row _) Tryd.underlying50 rfl Tryd.sizeSeg) rfl ?_
    rw [HY.out, HZ.out, ← HN.out]
    refine ⟨⟨_, rfl, O6.row HOB.out _⟩, Blk.farRow T6 (by omega) _, only_row G6 (by omega) _⟩

set_option maxRecDepth 100000 in
theorem up_res (g : Nat) (ha : Option Addr) (hn hc : Nat) (hx : List Int) (start : Int) (begun heard : Bool) (s : Sg) (a : Option Addr) (n c : Nat) (xs : List Int) (w : World) (K : StB w g (.slice ha hn hc) start begun heard)
    (hst : 0 ≤ start ∧ start < 4294967296) (hhx : Ints .u8 w ha hn hx) (hdx : Ints .u8 w a n xs) (hac : a = none → c = 0) (hh : hn ≤ 100) :
    Calls Tryd.prog 23 #[.pointer (some ⟨g, 0, none⟩), s.v (.slice a n c)] w fun e w' => ResGot w g (.slice ha hn hc) (Pl.up hx start begun heard s xs) e w' := by
  obtain rfl : xs.length = n := hdx.len
  obtain rfl : hx.length = hn := hhx.len
  by_cases hf : Pl.shFault s xs.length = 0
  case neg =>
    refine (up_fault g s a _ c w hf).mono ?_
    rintro e w' ⟨r, q⟩
    unfold Pl.up
    rw [if_pos hf]
    exact .err hf r q K
  have h1 : ¬ Pl.shFault s xs.length ≠ 0 := by rw [hf]; simp
  by_cases hb : upBad s xs.length begun = 0
  case neg =>
    refine (up_bad g ha _ hc start begun heard s a _ c xs w hf K hdx hac hh hb).mono ?_
    rintro e w' ⟨r, q⟩
    unfold Pl.up
    unfold upBad at hb r
    rw [if_neg h1]
    by_cases hS : s.flags / 2 % 2 = 1
    · rw [if_pos hS] at hb r ⊢
      by_cases h0 : xs.length = 0
      · exact absurd (if_pos h0) hb
      rw [if_neg h0] at r ⊢
      exact .err (by decide) r q K
    · rw [if_neg hS] at hb r ⊢
      by_cases h0 : begun = false
      · rw [if_pos h0] at r ⊢
        exact .err (by decide) r q K
      · exact absurd (if_neg h0) hb
  by_cases hS : s.flags / 2 % 2 = 1
  · have h0 : xs.length = 0 := by
      unfold upBad at hb
      rw [if_pos hS] at hb
      by_cases h0 : xs.length = 0
      · exact h0
      · rw [if_neg h0] at hb; cases hb
    obtain rfl : xs = [] := List.length_eq_zero_iff.1 h0
    unfold Pl.up
    rw [if_neg h1, if_pos hS, if_pos (show ([] : List Int).length = 0 from rfl)]
    cases begun
    · refine (up_syn g ha _ hc start heard s a c w hf K hdx hac hh hS).mono ?_
      rintro e w' ⟨r, k, q⟩
      rw [if_neg (by simp)]
      exact .got r k q
    · refine (up_syn_b g ha _ hc start heard s a c w hf K hdx hac hh hS).mono ?_
      rintro e w' ⟨r, k, q⟩
      simp only [true_and]
      exact .got r k q
  · have hB : begun = true := by
      cases begun
      · unfold upBad at hb; rw [if_neg hS, if_pos rfl] at hb; cases hb
      · rfl
    subst hB
    obtain ⟨-, -, -, ⟨f0, f1⟩, -⟩ := shFault_ok hf
    refine (up_data g ha _ hc hx start heard s a _ c xs w hf K hst hhx hdx hac hh (by omega)).mono ?_
    rintro e w' ⟨hA, hC, hD⟩
    unfold Pl.up
    rw [if_neg h1, if_neg hS, if_neg (by decide)]
    by_cases h2 : s.seq ≠ start ∨ heard = true
    · rw [if_pos h2]
      obtain ⟨r, q⟩ := hA h2
      exact .got r (Blk.ext K q) (q.only g)
    · rw [if_neg h2]
      have h3 : s.seq = start := by simpa using fun h => h2 (.inl h)
      have h4 : heard = false := by
        cases heard
        · rfl
        · exact absurd (.inr rfl) h2
      by_cases h5 : 300 < hx.length + xs.length
      · rw [if_pos h5]
        obtain ⟨r, q⟩ := hD h3 h4 h5
        exact .err (by decide) r q K
      · rw [if_neg h5]
        obtain ⟨r, q⟩ := hC h3 h4 (by omega)
        exact .got r (Blk.ext K q) (q.only g)
end Go.Proofs.YtkjchddidpjjmaaDoor
