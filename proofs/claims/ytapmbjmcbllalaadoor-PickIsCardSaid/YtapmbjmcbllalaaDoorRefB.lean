/- The document's answers on flows and servers: FlowFault, ScoreOf. Conditions: as each theorem states them. -/
import Derived.Test.YtapmbjmcbllalaaDoorRef2
import Derived.Test.YtapmbjmcbllalaaDoorScore
import Derived.Test.YtapmbjmcbllalaaDoorRowI
namespace Go.Proofs.YtapmbjmcbllalaaDoor
open Go.RowKit
/-- May a flow be, as the document asks. -/
def okF (f : Flow) : Bool := (decide (f.kind = 6) || decide (f.kind = 17)) && words f.client.l && words f.dst.l && w16 f.port && w16 f.door
theorem w16_iff {n : Int} : w16 n = true ↔ 0 ≤ n ∧ n ≤ 65535 := by unfold w16; simp
theorem okF_iff {f : Flow} : okF f = true ↔ f.Ok := by
  unfold okF Flow.Ok Six.Ok
  simp only [Bool.and_eq_true, Bool.or_eq_true, decide_eq_true_eq, w16_iff]
  constructor
  · rintro ⟨⟨⟨⟨h1, h2⟩, h3⟩, h4⟩, h5⟩
    exact ⟨h1, h2, h3, h4, h5⟩
  · rintro ⟨h1, h2, h3, h4, h5⟩
    exact ⟨⟨⟨⟨h1, h2⟩, h3⟩, h4⟩, h5⟩
/-- The fault of a flow. -/
def flowE (f : Flow) : Int := if okF f = true then 0 else 1
set_option maxHeartbeats 1600000 in
theorem rflow_any (f : Flow) (w : World) : Calls Tryd.prog 35 #[f.v] w fun e w' => e = .returned (.int .i64 (flowE f)) ∧ Ext w w' := by
  have K0 := Blk.new w 37 f.cells
  have l0c := K0.fclient
  have l0d := K0.fdst
  obtain ⟨n00, n09, n018⟩ := K0.fnums
  have E0 : Ext w (w.alloc (.cells f.cells 37)) := (Ext.refl w).alloc _
  obtain ⟨p, hp⟩ : ∃ p, w16 f.port = p := ⟨_, rfl⟩
  obtain ⟨d, hd⟩ : ∃ d, w16 f.door = d := ⟨_, rfl⟩
  have HR := Lib.hid (show flowE f = if ((decide (f.kind = 6) || decide (f.kind = 17)) && words f.client.l && words f.dst.l && p && d) = true then 0 else 1 by unfold flowE okF; rw [hp, hd])
  have hc1 := fun W => sixFault_any f.client W
  have hc2 := fun W => sixFault_any f.dst W
  unfold sixE at hc1 hc2
  obtain ⟨c, hc⟩ : ∃ c, words f.client.l = c := ⟨_, rfl⟩
  obtain ⟨e, he⟩ : ∃ e, words f.dst.l = e := ⟨_, rfl⟩
  have HP := Lib.hid hp
  have HD := Lib.hid hd
  rw [hc] at hc1
  rw [he] at hc2
  have HR2 := Lib.hid (show flowE f = if ((decide (f.kind = 6) || decide (f.kind = 17)) && c && e && p && d) = true then 0 else 1 by rw [HR.out, hc, he])
  have HC1 := Lib.hid hc1
  have HC2 := Lib.hid hc2
  clear hp hd hc he hc1 hc2 HR
  unfold Flow.v
  go_enter Tryd.func35, Tryd.ntmps35
  go_wp2_with fail
  refine (word_any _ _).mono ?_
  rintro e' w' ⟨rfl, rfl⟩
  rw [HP.out]
  go_wp2_with fail
  refine (word_any _ _).mono ?_
  rintro e' w' ⟨rfl, rfl⟩
  rw [HD.out]
  by_cases hk : f.kind = 6 ∨ f.kind = 17
  case neg =>
    have e6 : (f.kind != 6) = true := by simp; omega
    have e17 : (f.kind != 17) = true := by simp; omega
    have e1 : decide (f.kind = 6) = false := by simp; omega
    have e2 : decide (f.kind = 17) = false := by simp; omega
    have HZ := Lib.hid (show flowE f = 1 by rw [HR2.out, e1, e2]; rfl)
    clear hk e1 e2
    go_wp2_with fail
    go_ret
    exact ⟨by rw [HZ.out]; rfl, E0⟩
  case pos =>
    have e0 : (decide (f.kind = 6) || decide (f.kind = 17)) = true := by simpa using hk
    have HZ := Lib.hid (show flowE f = if (c && e && p && d) = true then 0 else 1 by rw [HR2.out, e0, Bool.true_and])
    clear e0
    rcases hk with hk | hk
    case' inl => have e6 : (f.kind != 6) = false := by rw [hk]; rfl
    case' inr =>
      have e6 : (f.kind != 6) = true := by rw [hk]; rfl
      have e17 : (f.kind != 17) = false := by rw [hk]; rfl
    all_goals
      clear hk
      go_wp2_with (first | ((apply load_by rfl _ _ rfl _ rfl); (focus (with_reducible assumption))) | fail)
      refine (HC1.out _).mono ?_
      rintro e' W1 ⟨rfl, q1⟩
      have k1 := K0.ext q1
      have l1d := k1.fdst
      have E1 := E0.trans q1
      clear l0c l0d n00 n09 n018
      cases c
      case false =>
        rw [if_neg (by decide)]
        go_wp2_with fail
        go_ret
        exact ⟨by rw [HZ.out]; rfl, E1⟩
      case true =>
        rw [if_pos rfl]
        go_wp2_with (first | ((apply load_by rfl _ _ rfl _ rfl); (focus (with_reducible assumption))) | fail)
        refine (HC2.out _).mono ?_
        rintro e' W2 ⟨rfl, q2⟩
        have E2 := E1.trans q2
        clear l1d
        cases e
        case false =>
          rw [if_neg (by decide)]
          go_wp2_with fail
          go_ret
          exact ⟨by rw [HZ.out]; rfl, E2⟩
        case true =>
          rw [if_pos rfl]
          cases p
          case false =>
            go_wp2_with fail
            go_ret
            exact ⟨by rw [HZ.out]; rfl, E2⟩
          case true =>
            cases d
            all_goals
              go_wp2_with fail
              go_ret
              exact ⟨by rw [HZ.out]; rfl, E2⟩
/-- The fault of a score. -/
def okS (seed : Int) (f : Flow) (id : Int) : Bool := decide (0 ≤ seed) && decide (seed ≤ 2147483647) && w16 id && okF f
theorem okS_iff {seed : Int} {f : Flow} {id : Int} : okS seed f id = true ↔ (0 ≤ seed ∧ seed < 2147483648) ∧ (0 ≤ id ∧ id ≤ 65535) ∧ f.Ok := by
  unfold okS
  simp only [Bool.and_eq_true, decide_eq_true_eq, w16_iff, okF_iff]
  constructor
  · rintro ⟨⟨⟨h1, h2⟩, h3⟩, h4⟩; exact ⟨⟨h1, by omega⟩, h3, h4⟩
  · rintro ⟨⟨h1, h2⟩, h3, h4⟩; exact ⟨⟨⟨h1, by omega⟩, h3⟩, h4⟩
set_option maxRecDepth 100000 in
set_option maxHeartbeats 1600000 in
theorem rscore_bad (seed : Int) (f : Flow) (id : Int) (w : World) (h : ¬ ((0 ≤ seed ∧ seed < 2147483648) ∧ (0 ≤ id ∧ id ≤ 65535) ∧ f.Ok)) :
    Calls Tryd.prog 15 #[.int .i64 seed, f.v, .int .i64 id] w fun e w' => e = .returned (.tuple #[.int .i64 0, .int .i64 1]) ∧ Ext w w' := by
  have K0 := Blk.new w 37 f.cells
  have l0 := K0.flow
  have E0 : Ext w (w.alloc (.cells f.cells 37)) := (Ext.refl w).alloc _
  have H := Lib.hid h
  clear h
  unfold Flow.v
  go_enter Tryd.func15, Tryd.ntmps15
  go_wp2_with fail
  refine (word_any _ _).mono ?_
  rintro e' w' ⟨rfl, rfl⟩
  by_cases h1 : 0 ≤ seed
  case neg =>
    go_wp2_with fail
    go_ret2
    exact ⟨rfl, E0⟩
  by_cases h2 : seed ≤ 2147483647
  case neg =>
    have h2' : (2147483647 : Int) < seed := by omega
    go_wp2_with fail
    go_ret2
    exact ⟨rfl, E0⟩
  have h2' : ¬ (2147483647 : Int) < seed := by omega
  cases h3 : w16 id
  case false =>
    clear h3
    go_wp2_with fail
    go_ret2
    exact ⟨rfl, E0⟩
  case true =>
    have h5 : okF f = false := by
      cases h5 : okF f
      · rfl
      · exact absurd ⟨⟨h1, by omega⟩, w16_yes h3, okF_iff.1 h5⟩ H.out
    have HE := Lib.hid (show flowE f = 1 by unfold flowE; rw [h5]; rfl)
    clear h3 h5
    go_wp2_with ((apply load_by rfl _ _ rfl _ rfl); (focus (with_reducible assumption)))
    refine (rflow_any f _).mono ?_
    rintro e' W1 ⟨rfl, q1⟩
    rw [HE.out]
    go_wp2_with fail
    go_ret2
    exact ⟨rfl, E0.trans q1⟩
set_option maxRecDepth 100000 in
set_option maxHeartbeats 4000000 in
theorem rscore_ok (seed : Int) (f : Flow) (id : Int) (w : World) (hs : 0 ≤ seed ∧ seed < 2147483648) (hi : 0 ≤ id ∧ id ≤ 65535) (h : f.Ok) :
    Calls Tryd.prog 15 #[.int .i64 seed, f.v, .int .i64 id] w fun e w' => e = .returned (.tuple #[.int .i64 (Pl.score seed f id), .int .i64 0]) ∧ Ext w w' := by
  have K0 := Blk.new w 37 f.cells
  have l0 := K0.flow
  have E0 : Ext w (w.alloc (.cells f.cells 37)) := (Ext.refl w).alloc _
  have HE := Lib.hid (show flowE f = 0 by unfold flowE; rw [okF_iff.2 h]; rfl)
  have HI := Lib.hid (show w16 id = true from w16_iff.2 hi)
  have HS := Lib.hid hs
  have HW := Lib.hid (show words ([f.kind] ++ f.client.l ++ [f.port] ++ f.dst.l ++ [f.door, id]) = true by
    obtain ⟨hk, hc, hd, hp, hdr⟩ := h
    unfold Six.Ok at hc hd
    have a1 : words [f.kind] = true := by simp [words]; omega
    have a2 : words [f.port] = true := by simp [words]; omega
    have a3 : words [f.door, id] = true := by simp [words]; omega
    rw [words_append, words_append, words_append, words_append, a1, a2, a3, hc, hd]; rfl)
  obtain ⟨s0, s1⟩ := hs
  have s2 : ¬ (2147483647 : Int) < seed := by omega
  clear h hi
  unfold Flow.v
  go_enter Tryd.func15, Tryd.ntmps15
  go_wp2_with fail
  refine (word_any _ _).mono ?_
  rintro e' w' ⟨rfl, rfl⟩
  rw [HI.out]
  go_wp2_with ((apply load_by rfl _ _ rfl _ rfl); (focus (with_reducible assumption)))
  refine (rflow_any f _).mono ?_
  rintro e' W1 ⟨rfl, q1⟩
  rw [HE.out]
  have k1 := K0.ext q1
  have E1 := E0.trans q1
  have z1 := q1.size
  simp only [World.size_alloc] at z1
  obtain ⟨n10, n19, n118⟩ := k1.fnums
  clear l0 K0
  go_wp2_with (at_builtin; refine Halt.out ?_)
  refine Halt.mk ?_
  refine appI rfl _ _ rfl (w.heap.size + 1) _ [] rfl ?_ _ 1 1 [f.kind] rfl (Blk.new W1 3 #[.int .i64 f.kind]).ints1 ?_ ?_ ?_
  · exact Kin.Own.nil _ _
  · decide
  · show w.heap.size + 1 ≤ (W1.alloc _).heap.size
    rw [World.size_alloc]; omega
  intro v2 W2 o2 _ b2
  have k2 := (k1.alloc (.cells #[.int .i64 f.kind] 3)).below b2 (by omega)
  have E2 : Ext w W2 := Below.trans (E1.alloc (.cells #[.int .i64 f.kind] 3)) (Below.mono b2 (by omega))
  have z2 := b2.size
  simp only [World.size_alloc] at z2
  rw [List.nil_append] at o2
  clear k1 E1 E0 n10 n19 n118 b2 q1
  go_wp2_with fail
  go_loopw [10, 11] (fun v i wr => ∃ k : Nat, k ≤ 8 ∧ i = .int .i64 k ∧ KI.Own 3 wr (w.heap.size + 1) v ([f.kind] ++ f.client.l.take k) ∧ Ext w wr ∧ Blk wr w.heap.size 37 f.cells) (fun _ i _ => 8 - (intOf i).toNat)
  case atStart => exact ⟨0, Nat.zero_le _, rfl, o2, E2, k2⟩
  case round =>
    obtain ⟨k, hk, rfl, oB, hE, hK⟩ := hrel
    by_cases hlt : k < 8
    case pos =>
      have hc : wr.cell? ⟨w.heap.size, 1 + k, none⟩ = some (.int .i64 (f.client.l.getD k 0)) := by
        rcases hK.ints_client.2 with h | ⟨b, off, hb, h⟩
        · omega
        · cases hb; exact h k hlt
      have hsn := take_snoc f.client.l k hlt
      have hkl : (k : Int) < 8 := by omega
      have hzr := hE.size
      have hlw := hK.lt
      generalize f.client.l.getD k 0 = x at *
      have HSN := Lib.hid hsn
      clear hsn
      go_wp2_with (at_builtin; refine Halt.out ?_)
      refine Halt.mk ?_
      refine appI rfl _ _ rfl (w.heap.size + 1) _ _ rfl (oB.ext ((Ext.refl wr).alloc _)) _ 1 1 [x] rfl (Blk.new wr 3 #[.int .i64 x]).ints1 ?_ ?_ ?_
      · rw [List.length_append, List.length_take]; simp; omega
      · show w.heap.size + 1 ≤ (wr.alloc _).heap.size
        rw [World.size_alloc]; omega
      intro v' W' o' _ b'
      rw [List.append_assoc, ← HSN.out] at o'
      have k' := (hK.alloc (.cells #[.int .i64 x] 3)).below b' (by omega)
      have E' : Ext w W' := Below.trans (hE.alloc (.cells #[.int .i64 x] 3)) (Below.mono b' (by omega))
      clear hc hK hE oB b'
      go_wp2_with fail
      go_roundw
      case rel => exact ⟨k + 1, by omega, by go_num, o', E', k'⟩
      case measure => simp [intOf] <;> omega
    case neg =>
      obtain rfl : k = 8 := by omega
      obtain ⟨n10, n19, n118⟩ := hK.fnums
      have zr := hE.size
      have lr := hK.lt
      have e8 : f.client.l.take 8 = f.client.l := List.take_of_length_le (Nat.le_refl _)
      rw [e8] at oB
      clear e8
      go_wp2_with (at_builtin; refine Halt.out ?_)
      refine Halt.mk ?_
      refine appI rfl _ _ rfl (w.heap.size + 1) _ _ rfl (oB.ext ((Ext.refl wr).alloc _)) _ 1 1 [f.port] rfl (Blk.new wr 3 #[.int .i64 f.port]).ints1 ?_ ?_ ?_
      · rw [List.length_append]; exact (by decide : 1 + 8 + 1 ≤ 1073741824)
      · show w.heap.size + 1 ≤ (wr.alloc _).heap.size
        rw [World.size_alloc]; omega
      intro v3 W3 o3 _ b3
      have k3 := (hK.alloc (.cells #[.int .i64 f.port] 3)).below b3 (by omega)
      have E3 : Ext w W3 := Below.trans (hE.alloc (.cells #[.int .i64 f.port] 3)) (Below.mono b3 (by omega))
      clear hK hE oB b3 n10 n19 n118 k2 E2 o2
      go_wp2_with fail
      obtain ⟨W4, hW4⟩ : ∃ W4, W3 = W4 := ⟨_, rfl⟩
      rw [hW4] at o3 E3 k3 ⊢
      clear hW4
      go_loopw [10, 12] (fun v i wr => ∃ k : Nat, k ≤ 8 ∧ i = .int .i64 k ∧ KI.Own 3 wr (w.heap.size + 1) v ([f.kind] ++ f.client.l ++ [f.port] ++ f.dst.l.take k) ∧ Ext w wr ∧ Blk wr w.heap.size 37 f.cells) (fun _ i _ => 8 - (intOf i).toNat)
      case atStart => exact ⟨0, Nat.zero_le _, rfl, by rw [List.take_zero, List.append_nil]; exact o3, E3, k3⟩
      case round =>
        obtain ⟨k, hk, rfl, oB, hE, hK⟩ := hrel
        by_cases hlt : k < 8
        case pos =>
          have hc : wr.cell? ⟨w.heap.size, 10 + k, none⟩ = some (.int .i64 (f.dst.l.getD k 0)) := by
            rcases hK.ints_dst.2 with h | ⟨b, off, hb, h⟩
            · omega
            · cases hb; exact h k hlt
          have hsn := take_snoc f.dst.l k hlt
          have hkl : (k : Int) < 8 := by omega
          have hzr := hE.size
          have hlw := hK.lt
          generalize f.dst.l.getD k 0 = x at *
          have HSN := Lib.hid hsn
          clear hsn
          go_wp2_with (at_builtin; refine Halt.out ?_)
          refine Halt.mk ?_
          refine appI rfl _ _ rfl (w.heap.size + 1) _ _ rfl (oB.ext ((Ext.refl wr).alloc _)) _ 1 1 [x] rfl (Blk.new wr 3 #[.int .i64 x]).ints1 ?_ ?_ ?_
          · rw [List.length_append, List.length_take]; exact Nat.le_trans (Nat.add_le_add_right (Nat.add_le_add_left (Nat.min_le_left _ _) _) 1) (by show 10 + k + 1 ≤ _; omega)
          · show w.heap.size + 1 ≤ (wr.alloc _).heap.size
            rw [World.size_alloc]; omega
          intro v' W' o' _ b'
          rw [List.append_assoc, ← HSN.out] at o'
          have k' := (hK.alloc (.cells #[.int .i64 x] 3)).below b' (by omega)
          have E' : Ext w W' := Below.trans (hE.alloc (.cells #[.int .i64 x] 3)) (Below.mono b' (by omega))
          clear hc hK hE oB b'
          go_wp2_with fail
          go_roundw
          case rel => exact ⟨k + 1, by omega, by go_num, o', E', k'⟩
          case measure => simp [intOf] <;> omega
        case neg =>
          obtain rfl : k = 8 := by omega
          obtain ⟨n10, n19, n118⟩ := hK.fnums
          have zr := hE.size
          have lr := hK.lt
          have e8 : f.dst.l.take 8 = f.dst.l := List.take_of_length_le (Nat.le_refl _)
          rw [e8] at oB
          clear e8
          go_wp2_with (at_builtin; refine Halt.out ?_)
          refine Halt.mk ?_
          refine appI rfl _ _ rfl (w.heap.size + 1) _ _ rfl (oB.ext ((Ext.refl wr).alloc _)) _ 2 2 [f.door, id] rfl (Blk.new wr 3 #[.int .i64 f.door, .int .i64 id]).ints2 ?_ ?_ ?_
          · exact (by decide : 18 + 2 ≤ 1073741824)
          · show w.heap.size + 1 ≤ (wr.alloc _).heap.size
            rw [World.size_alloc]; omega
          intro v5 W5 o5 _ b5
          have E5 : Ext w W5 := Below.trans (hE.alloc (.cells #[.int .i64 f.door, .int .i64 id] 3)) (Below.mono b5 (by omega))
          have HL := Lib.hid (show ([f.kind] ++ f.client.l ++ [f.port] ++ f.dst.l ++ [f.door, id]).length = 20 from rfl)
          have HSC := Lib.hid (show Pl.score seed f id = Pl.mix seed ([f.kind] ++ f.client.l ++ [f.port] ++ f.dst.l ++ [f.door, id]) / 256 by
            unfold Pl.score; rw [Pl.mix_append, Pl.mix_append, Pl.mix_append, Pl.mix_append])
          generalize [f.kind] ++ f.client.l ++ [f.port] ++ f.dst.l ++ [f.door, id] = L at *
          obtain ⟨a6, n6, c6, rfl, _, r6⟩ := o5.read
          have i6 := r6.ints
          have HX := Lib.hid i6
          obtain rfl : n6 = 20 := by rw [← i6.len]; exact HL.out
          clear hK hE oB b5 n10 n19 n118 k3 E3 o3 r6 i6
          go_wp2_with fail
          go_loop [13, 14] (fun x i => ∃ k : Nat, k ≤ 20 ∧ i = .int .i64 k ∧ x = .int .i64 (Pl.mix seed (L.take k))) (fun _ i => 20 - (intOf i).toNat)
          case atStart => exact ⟨0, Nat.zero_le _, rfl, rfl⟩
          case round =>
            obtain ⟨k, hk, rfl, rfl⟩ := hrel
            obtain ⟨y0, y1⟩ := Pl.mix_bd seed (L.take k) HS.out
            by_cases hlt : k < 20
            case pos =>
              have hsn := Pl.mix_snoc seed (L.take k) (L.getD k 0)
              rw [← take_snoc L k (by rw [HL.out]; exact hlt)] at hsn
              obtain ⟨x0, x1⟩ := words_at HW.out k
              obtain ⟨b, off, rfl, hbl, hcell⟩ := HX.out.at (by omega)
              have hck := hcell k hlt
              have hkl : (k : Int) < 20 := by omega
              clear hcell
              generalize L.getD k 0 = x at *
              generalize Pl.mix seed (L.take k) = y at *
              have HSN := Lib.hid hsn
              clear hsn
              go_wp2
              go_round
              case rel => exact ⟨k + 1, by omega, by go_num, by rw [HSN.out]; rfl⟩
              case measure => simp [intOf] <;> omega
            case neg =>
              have hrest : L.take k = L := List.take_of_length_le (by rw [HL.out]; omega)
              rw [hrest] at y0 y1 ⊢
              have hkl : ¬ (k : Int) < 20 := by omega
              clear hrest
              generalize Pl.mix seed L = y at *
              go_wp2
              go_ret2
              exact ⟨by rw [HSC.out]; rfl, E5⟩
end Go.Proofs.YtapmbjmcbllalaaDoor
