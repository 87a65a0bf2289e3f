/- The document's answers on streams with heads: Up, of any segment. Conditions: as each theorem states them. -/
import Derived.Test.YtkjchddidpjjmaaDoorRefU
namespace Go.Proofs.YtkjchddidpjjmaaDoor
open Go.RowKit
set_option maxRecDepth 100000 in
set_option maxHeartbeats 4000000 in
theorem rup_res (g : Nat) (ha : Option Addr) (hn hc : Nat) (hx : List Int) (start : Int) (begun heard : Bool) (s : Sg) (a : Option Addr) (n c : Nat) (xs : List Int) (w : World) (K : StR w g (.slice ha hn hc) start begun heard) (hst : 0 ≤ start ∧ start < 4294967296)
    (hhx : Ints .u8 w ha hn hx) (hdx : Ints .u8 w a n xs) (hg : 0 < n → ∀ p, a = some p → p.block ≠ g) (hh : hn ≤ 100) :
    Calls Tryd.prog 22 #[.pointer (some ⟨g, 0, none⟩), s.v (.slice a n c)] w fun e w' => RefGot w g (.slice ha hn hc) a n (Pl.up hx start begun heard s xs) e w' := by
  obtain rfl : xs.length = n := hdx.len
  obtain rfl : hx.length = hn := hhx.len
  by_cases hsyn : Pl.shFault s xs.length = 0 ∧ s.flags / 2 % 2 = 1 ∧ xs.length = 0
  case pos =>
    obtain ⟨p1, p2, p3⟩ := hsyn
    obtain rfl := List.length_eq_zero_iff.1 p3
    exact rup_syn g ha _ hc hx start begun heard s a c w K hdx rfl hh p1 p2
  have HNS := Lib.hid hsyn
  clear hsyn
  have KB := Blk.new w 50 (s.cells (.slice a xs.length c))
  have KB1 := KB.alloc (.cells #[.int .i64 0, .int .i64 0, .int .i64 0, .int .i64 0, .int .i64 0, .int .i64 0, .int .i64 0, .slice none 0 0] 50)
  have lB := KB1.seg
  have HX := Lib.hid hdx
  have HH := Lib.hid hhx
  have HG := Lib.hid hg
  have HS := Lib.hid hst
  have HK := Lib.hid K
  have HN := Lib.hid hh
  have hgl := Blk.lt K
  clear hdx hhx hg hst K hh
  go_enter Tryd.func22, Tryd.ntmps22
  go_wp2_with ((apply load_by rfl _ _ rfl _ rfl); (focus (with_reducible assumption)))
  refine at_world (fun W => Ext w W ∧ Blk W (w.heap.size + 1) 50 #[.int .i64 0, .int .i64 0, .int .i64 0, .int .i64 0, .int .i64 0, .int .i64 0, .int .i64 0, .slice none 0 0] ∧ Blk W w.heap.size 50 (s.cells (.slice a xs.length c))) ⟨((Ext.refl w).alloc _).alloc _, Blk.at _ _ _ (by simp), KB1⟩ ?_
  rintro W1 ⟨E1, KR, KS⟩
  clear KB KB1 lB
  refine (rsegFault_any s a xs.length c W1).mono ?_
  rintro e W2 ⟨rfl, q2⟩
  have E2 := E1.trans q2
  have KR2 := KR.ext q2
  have KS2 := KS.ext q2
  have KG2 : StR W2 g (.slice ha hx.length hc) start begun heard := Blk.ext HK.out E2
  have s0 := sto0 KR2
  clear KR KS q2 E1
  by_cases hq : Pl.segFault s xs.length = 0
  case neg =>
    have HE := Lib.hid (show Pl.up hx start begun heard s xs = ⟨Pl.segFault s xs.length, sg0, [], start, begun, heard⟩ by
      unfold Pl.up; rw [Pl.sf_ne hq, if_pos hq])
    generalize Pl.segFault s xs.length = q at *
    have hqb : (q != 0) = true := by simpa using hq
    clear hq
    go_wp2_with ((apply store_by rfl _ _ _ rfl _ rfl); (focus (with_reducible assumption)); (focus rfl))
    refine bodyPost_ret (results_cell2 Tryd.results22 _ _ (w.heap.size + 1) 50 #[.int .i64 0, .int .i64 0, .int .i64 0, .int .i64 0, .int .i64 0, .int .i64 0, .int .i64 0, .slice none 0 0] _ rfl (KR2.row _) Tryd.underlying50 rfl Tryd.sizeSeg) rfl ?_
    rw [HE.out]
    exact ⟨none, 0, 0, rfl, Ints.nil, fun p hp => (by cases hp), Blk.farRow KG2 (by omega) _, (E2.row (by omega) _).only g⟩
  have HQ := Lib.hid hq
  rw [hq]
  clear hq
  obtain ⟨d0, d1, d2, d3, d4, d5, d6, d7⟩ := KS2.sg
  by_cases hk : s.kind = 6
  case neg =>
    have HE := Lib.hid (show Pl.up hx start begun heard s xs = ⟨2, sg0, [], start, begun, heard⟩ by
      unfold Pl.up; rw [Pl.sf_kind HQ.out hk, if_pos (by decide)])
    have hkb : (s.kind != 6) = true := by simpa using hk
    clear hk
    go_wp2_with ((apply store_by rfl _ _ _ rfl _ rfl); (focus (with_reducible assumption)); (focus rfl))
    refine bodyPost_ret (results_cell2 Tryd.results22 _ _ (w.heap.size + 1) 50 #[.int .i64 0, .int .i64 0, .int .i64 0, .int .i64 0, .int .i64 0, .int .i64 0, .int .i64 0, .slice none 0 0] _ rfl (KR2.row _) Tryd.underlying50 rfl Tryd.sizeSeg) rfl ?_
    rw [HE.out]
    exact ⟨none, 0, 0, rfl, Ints.nil, fun p hp => (by cases hp), Blk.farRow KG2 (by omega) _, (E2.row (by omega) _).only g⟩
  have HF := Pl.sf_ok HQ.out hk
  have HFF := Lib.hid HF
  have HU := Lib.hid (show Pl.up hx start begun heard s xs = (if s.flags / 2 % 2 = 1 then
      if xs.length = 0 then ⟨0, { s with seq := ser (s.seq - hx.length) }, [], ser (s.seq + 1), true, if begun = true ∧ start = ser (s.seq + 1) then heard else false⟩
      else ⟨2, sg0, [], start, begun, heard⟩
    else if begun = false then ⟨9, sg0, [], start, begun, heard⟩
    else if s.seq ≠ start ∨ heard = true then ⟨0, s, xs, start, begun, heard⟩
    else if 300 < hx.length + xs.length then ⟨3, sg0, [], start, begun, heard⟩
    else ⟨0, { s with seq := ser (s.seq - hx.length) }, hx ++ xs, start, begun, heard⟩) by unfold Pl.up; rw [HF]; rfl)
  obtain ⟨-, ⟨q0, q1⟩, -, ⟨f0, f1⟩, hn3⟩ := shFault_ok HF
  have hkb : (s.kind != 6) = false := by simpa using hk
  clear hk HF
  have b0 : W2.cell? ⟨g, 0, none⟩ = some (.slice ha hx.length hc) := Blk.cells KG2 0
  have b1 : W2.cell? ⟨g, 1, none⟩ = some (.int .i64 start) := Blk.cells KG2 1
  have b2 : W2.cell? ⟨g, 2, none⟩ = some (.bool begun) := Blk.cells KG2 2
  have b3 : W2.cell? ⟨g, 3, none⟩ = some (.bool heard) := Blk.cells KG2 3
  have eq1 : IntKind.i64.wrap (s.flags.tdiv 2) = s.flags / 2 := by rw [Int.tdiv_eq_ediv_of_nonneg f0]; exact IntWalk.i64_in _ (by omega)
  have eq2 : IntKind.i64.wrap ((s.flags / 2).tmod 2) = s.flags / 2 % 2 := by rw [Int.tmod_eq_emod_of_nonneg (by omega)]; exact IntWalk.i64_in _ (by omega)
  have es1 : IntKind.i64.wrap (s.seq + 1) = s.seq + 1 := IntWalk.i64_in _ (by omega)
  have HL := Lib.hid (fun W => less_any s.seq hx.length W ⟨q0, q1⟩ (by have := HN.out; omega))
  have hR1 : ¬ w.heap.size + 1 = w.heap.size := by omega
  have hR2 : ¬ w.heap.size + 1 = g := by omega
  have hR3 : ¬ g = w.heap.size := by omega
  have hR4 : ¬ w.heap.size = g := by omega
  have fS3 := KS2.free 3
  have fG1 : W2.frozen? ⟨g, 1, none⟩ = false := Blk.free KG2 1
  have fG2 : W2.frozen? ⟨g, 2, none⟩ = false := Blk.free KG2 2
  have fG3 : W2.frozen? ⟨g, 3, none⟩ = false := Blk.free KG2 3
  by_cases hS : s.flags / 2 % 2 = 1
  case pos =>
    have hSb : (s.flags / 2 % 2 == 1) = true := by simpa using hS
    rw [hS] at eq2
    have h0 : ¬ xs.length = 0 := fun h => HNS.out ⟨HFF.out, hS, h⟩
    have HE := Lib.hid (show Pl.up hx start begun heard s xs = ⟨2, sg0, [], start, begun, heard⟩ by rw [HU.out, if_pos hS, if_neg h0])
    have hpos : (0 : Int) < (xs.length : Int) := by omega
    clear hS h0
    go_wp2_with ((apply store_by rfl _ _ _ rfl _ rfl); (focus (with_reducible assumption)); (focus rfl))
    refine bodyPost_ret (results_cell2 Tryd.results22 _ _ (w.heap.size + 1) 50 #[.int .i64 0, .int .i64 0, .int .i64 0, .int .i64 0, .int .i64 0, .int .i64 0, .int .i64 0, .slice none 0 0] _ rfl (KR2.row _) Tryd.underlying50 rfl Tryd.sizeSeg) rfl ?_
    rw [HE.out]
    exact ⟨none, 0, 0, rfl, Ints.nil, fun p hp => (by cases hp), Blk.farRow KG2 (by omega) _, (E2.row (by omega) _).only g⟩
  case neg =>
    have hSb : (s.flags / 2 % 2 == 1) = false := by simpa using hS
    have HV := Lib.hid (show Pl.up hx start begun heard s xs = (if begun = false then ⟨9, sg0, [], start, begun, heard⟩
      else if s.seq ≠ start ∨ heard = true then ⟨0, s, xs, start, begun, heard⟩
      else if 300 < hx.length + xs.length then ⟨3, sg0, [], start, begun, heard⟩
      else ⟨0, { s with seq := ser (s.seq - hx.length) }, hx ++ xs, start, begun, heard⟩) by rw [HU.out, if_neg hS])
    clear hS HU
    cases begun
    case false =>
      have HE := Lib.hid (show Pl.up hx start false heard s xs = ⟨9, sg0, [], start, false, heard⟩ by rw [HV.out, if_pos rfl])
      clear HV
      go_wp2_with ((apply store_by rfl _ _ _ rfl _ rfl); (focus (with_reducible assumption)); (focus rfl))
      refine bodyPost_ret (results_cell2 Tryd.results22 _ _ (w.heap.size + 1) 50 #[.int .i64 0, .int .i64 0, .int .i64 0, .int .i64 0, .int .i64 0, .int .i64 0, .int .i64 0, .slice none 0 0] _ rfl (KR2.row _) Tryd.underlying50 rfl Tryd.sizeSeg) rfl ?_
      rw [HE.out]
      exact ⟨none, 0, 0, rfl, Ints.nil, fun p hp => (by cases hp), Blk.farRow KG2 (by omega) _, (E2.row (by omega) _).only g⟩
    by_cases hne : s.seq ≠ start ∨ heard = true
    case pos =>
      have HE := Lib.hid (show Pl.up hx start true heard s xs = ⟨0, s, xs, start, true, heard⟩ by rw [HV.out, if_neg (by decide), if_pos hne])
      by_cases hsq : s.seq = start
      case' pos =>
        have hs : (s.seq != start) = false := by simpa using hsq
        obtain rfl : heard = true := by
          rcases hne with h | h
          · exact absurd hsq h
          · exact h
      case' neg =>
        have hs : (s.seq != start) = true := by simpa using hsq
      all_goals
        clear hsq hne
        go_wp2_with fail
        go_quiet (fail)
        have l6 := (KS2.drewN nq).seg
        have t6 := sto (KR2.drewN nq) s a xs.length c
        go_wp2_with (first | ((apply load_by rfl _ _ rfl _ rfl); (focus (with_reducible assumption))) | ((apply store_by rfl _ _ _ rfl _ rfl); (focus (with_reducible assumption)); (focus rfl)))
        refine bodyPost_ret (results_cell2 Tryd.results22 _ _ (w.heap.size + 1) 50 _ _ rfl ((KR2.drewN nq).row _) Tryd.underlying50 rfl Tryd.sizeSeg) rfl ?_
        rw [HE.out]
        exact ⟨a, _, c, rfl, HX.out.ext ((E2.drewN nq).row (by omega) _), fun p hp => .inl ⟨hp, rfl⟩, Blk.farRow (Blk.drewN KG2 nq) (by omega) _, ((E2.drewN nq).row (by omega) _).only g⟩
    have hsq : s.seq = start := by simpa using fun h => hne (.inl h)
    obtain rfl : heard = false := by
      cases heard
      · rfl
      · exact absurd (.inr rfl) hne
    have hs : (s.seq != start) = false := by simpa using hsq
    have HW := Lib.hid (show Pl.up hx start true false s xs = (if 300 < hx.length + xs.length then ⟨3, sg0, [], start, true, false⟩
      else ⟨0, { s with seq := ser (s.seq - hx.length) }, hx ++ xs, start, true, false⟩) by rw [HV.out, if_neg (by decide), if_neg hne])
    have HWP := Lib.hid (fun (hl : 300 < hx.length + xs.length) => (show Pl.up hx start true false s xs = ⟨3, sg0, [], start, true, false⟩ from by rw [HW.out, if_pos hl]))
    have HWN := Lib.hid (fun (hl : ¬ 300 < hx.length + xs.length) => (show Pl.up hx start true false s xs = ⟨0, { s with seq := ser (s.seq - hx.length) }, hx ++ xs, start, true, false⟩ from by rw [HW.out, if_neg hl]))
    have hhn := HN.out
    clear hsq hne HV HW
    go_wp2_with fail
    go_quiet (fail)
    have E3 := E2.drewN nq
    have KR3 := KR2.drewN nq
    have KS3 := KS2.drewN nq
    have KG3 : StR (W2.drewN nq) g (.slice ha hx.length hc) start true false := Blk.drewN KG2 nq
    generalize W2.drewN nq = W3 at *
    clear E2 KR2 KS2 KG2 s0 b0 b1 b2 b3 d0 d1 d2 d3 d4 d5 d6 d7 fS3 fG1 fG2 fG3
    have d7 : W3.cell? ⟨w.heap.size, 7, none⟩ = some (.slice a xs.length c) := KS3.cells 7
    have s0 := sto0 KR3
    have b0 : W3.cell? ⟨g, 0, none⟩ = some (.slice ha hx.length hc) := Blk.cells KG3 0
    by_cases hl : 300 < hx.length + xs.length
    case pos =>
      have HE := Lib.hid (show Pl.up hx start true false s xs = ⟨3, sg0, [], start, true, false⟩ from HWP.out hl)
      have hlI : (300 : Int) < (hx.length : Int) + (xs.length : Int) := by omega
      clear hl
      go_wp2_with ((apply store_by rfl _ _ _ rfl _ rfl); (focus (with_reducible assumption)); (focus rfl))
      refine bodyPost_ret (results_cell2 Tryd.results22 _ _ (w.heap.size + 1) 50 #[.int .i64 0, .int .i64 0, .int .i64 0, .int .i64 0, .int .i64 0, .int .i64 0, .int .i64 0, .slice none 0 0] _ rfl (KR3.row _) Tryd.underlying50 rfl Tryd.sizeSeg) rfl ?_
      rw [HE.out]
      exact ⟨none, 0, 0, rfl, Ints.nil, fun p hp => (by cases hp), Blk.farRow KG3 (by omega) _, (E3.row (by omega) _).only g⟩
    have HE := Lib.hid (show Pl.up hx start true false s xs = ⟨0, { s with seq := ser (s.seq - hx.length) }, hx ++ xs, start, true, false⟩ from HWN.out hl)
    have hlI : ¬ (300 : Int) < (hx.length : Int) + (xs.length : Int) := by omega
    clear hl
    generalize hy : ser (s.seq - hx.length) = y at *
    clear hy
    go_wp2_with (at_builtin; refine Halt.out ?_)
    refine Halt.mk ?_
    refine app rfl _ _ rfl W3.heap.size _ [] rfl (Own.nil _ _) ha hx.length hc hx rfl (HH.out.ext E3) (by simp; omega) (Nat.le_refl _) ?_
    intro v1 W4 o1 q4
    rw [List.nil_append] at o1
    have q4' : Ext W3 W4 := q4
    have KS4 := KS3.ext q4'
    have d7' : W4.cell? ⟨w.heap.size, 7, none⟩ = some (.slice a xs.length c) := KS4.cells 7
    clear d7 b0 s0
    go_wp2_with (at_builtin; refine Halt.out ?_)
    refine Halt.mk ?_
    refine app rfl _ _ rfl W3.heap.size v1 hx rfl o1 a xs.length c xs rfl (HX.out.ext (E3.trans q4')) (by omega) q4'.size ?_
    intro v2 W5 o2 q5
    have q5' : Ext W3 W5 := Below.trans q4 q5
    obtain ⟨a2, n2, c2, rfl, _, i2⟩ := o2.read
    have KS5 := KS3.ext q5'
    have KR5 := KR3.ext q5'
    have KG5 := Blk.ext KG3 q5'
    have E5 := E3.trans q5'
    have hz5 := KR3.lt
    have hgz5 := Blk.lt KG3
    have hob : ∀ k, (Value.slice a2 n2 c2).ownBlock = some k → k ≠ w.heap.size + 1 ∧ k ≠ w.heap.size ∧ k ≠ g := fun k hk => by
      have h1 := o2.lt k hk
      omega
    have f57 := KS5.free 7
    have f53 := KS5.free 3
    have e53 : W5.cell? ⟨w.heap.size, 3, none⟩ = some (.int .i64 s.seq) := KS5.cells 3
    have e57 : W5.cell? ⟨w.heap.size, 7, none⟩ = some (.slice a xs.length c) := KS5.cells 7
    have KS6 : Blk (W5.setCell ⟨w.heap.size, 7, none⟩ (.slice a2 n2 c2)) w.heap.size 50 (s.cells (.slice a2 n2 c2)) := KS5.put 7 _
    have KS7 : Blk ((W5.setCell ⟨w.heap.size, 7, none⟩ (.slice a2 n2 c2)).setCell ⟨w.heap.size, 3, none⟩ (.int .i64 y)) w.heap.size 50 ({ s with seq := y }.cells (.slice a2 n2 c2)) := KS6.put 3 _
    have KR7 := (KR5.far (p := ⟨w.heap.size, 7, none⟩) hR1 (.slice a2 n2 c2)).far (p := ⟨w.heap.size, 3, none⟩) hR1 (.int .i64 y)
    have KG7 := Blk.far (Blk.far KG5 (p := ⟨w.heap.size, 7, none⟩) hR3 (.slice a2 n2 c2)) (p := ⟨w.heap.size, 3, none⟩) hR3 (.int .i64 y)
    have E7 := (E5.set (p := ⟨w.heap.size, 7, none⟩) (Nat.le_refl _) (.slice a2 n2 c2)).set (p := ⟨w.heap.size, 3, none⟩) (Nat.le_refl _) (.int .i64 y)
    have o7 := (o2.off (p := ⟨w.heap.size, 7, none⟩) (fun k hk => (hob k hk).2.1) (.slice a2 n2 c2)).off (p := ⟨w.heap.size, 3, none⟩) (fun k hk => (hob k hk).2.1) (.int .i64 y)
    have l7 := KS7.seg
    have t7 := sto KR7 { s with seq := y } a2 n2 c2
    have hE3 := E3.size
    have HO := Lib.hid (fun p (hp : a2 = some p) => (show w.heap.size ≤ p.block by
      have := (o2.lt p.block (by rw [hp]; rfl)).1
      omega))
    have HO7 := Lib.hid (o7.row (k := w.heap.size + 1) (fun k hk => (hob k hk).1) ({ s with seq := y }.cells (.slice a2 n2 c2)))
    clear KS5 KR5 KG5 KS6 o2 o7 i2 hob d7' KS4 o1 E5 E3 KS3 KR3 KG3
    go_wp2_with fail
    refine (HL.out _).mono ?_
    rintro e w' ⟨rfl, rfl⟩
    go_wp2_with (first | ((apply load_by rfl _ _ rfl _ rfl); (focus (with_reducible assumption))) | ((apply store_by rfl _ _ _ rfl _ rfl); (focus (with_reducible assumption)); (focus rfl)))
    refine bodyPost_ret (results_cell2 Tryd.results22 _ _ (w.heap.size + 1) 50 _ _ rfl (KR7.row _) Tryd.underlying50 rfl Tryd.sizeSeg) rfl ?_
    rw [HE.out]
    obtain ⟨_, _, _, hpv, _, i7⟩ := HO7.out.read
    cases hpv
    exact ⟨_, _, _, rfl, i7, fun p hp => .inr (HO.out p hp), Blk.farRow KG7 (by omega) _, (E7.row (by omega) _).only g⟩
end Go.Proofs.YtkjchddidpjjmaaDoor
