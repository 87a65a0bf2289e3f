/- The document's ports, on: Take walked. Conditions: as each lemma states them. -/
import Derived.Test.YtapmbjmcbllalaaDoorRPort2
namespace Go.Proofs.YtapmbjmcbllalaaDoor
open Go.RowKit
theorem Two.drew {a b : World} {g h : Nat} (p : Two a b g h) : Two a b.drew g h := ⟨p.os, p.tape, p.output, p.size, p.block⟩
/-- What the document's Take looks for in its turn. -/
def PS.seek (s : PS) (who : Six) (t : Int) (i : Nat) : Prop := if t = 0 then s.mineAt who i else s.freshAt i
set_option maxRecDepth 100000 in
set_option maxHeartbeats 4000000 in
theorem rtake_any (gM gW gT : Nat) (s : PS) (r : RS) (who : Six) (w : World) (h : Rrt w gM gW gT r) (hL : Like s r) :
    Calls Tryd.prog 20 #[.pointer (some ⟨gM, 0, none⟩), who.v] w fun e w' => e = .returned (.tuple #[.int .i64 (s.takeN who), .int .i64 (s.takeQ who)]) ∧ (∃ r', Rrt w' gM gW gT r' ∧ Like (s.take who) r') ∧ Two w w' gW gT := by
  have hn := h.n1
  have hrn := hL.n
  have KW := Blk.new w 31 who.cells
  have lw := KW.six0
  have E0 := (Ext.refl w).alloc (.cells who.cells 31)
  have hMl := h.ptr.lt
  have hWl := h.who.lt
  have hTl := h.tak.lt
  cases ho : okS who
  case false =>
    obtain ⟨e1, e2, e3⟩ := PS.take_bad (s := s) ho
    rw [e1, e2, e3]
    have hs : sixE who = 1 := by unfold sixE; exact if_neg (by intro h; unfold okS at ho; rw [ho] at h; cases h)
    have HS := Lib.hid (fun W => hs ▸ sixFault_any who W)
    have HL := Lib.hid hL
    have HR := Lib.hid h
    clear e1 e2 e3 ho hs h hL KW
    go_enter Tryd.func20, Tryd.ntmps20
    go_wp2_with ((apply load_by rfl _ _ rfl _ rfl); (focus (with_reducible assumption)))
    refine (HS.out _).mono ?_
    rintro e W1 ⟨rfl, q1⟩
    have E1 := E0.trans q1
    go_wp2_with fail
    go_returns
    exact ⟨rfl, ⟨r, HR.out.ext E1, HL.out⟩, E1.two⟩
  have hs : sixE who = 0 := by unfold sixE; exact if_pos ho
  have HS := Lib.hid (fun W => hs ▸ sixFault_any who W)
  have HO := Lib.hid ho
  have HL := Lib.hid hL
  have HR := Lib.hid h
  have HTK := Lib.hid hL.tk
  clear ho hs h hL
  go_enter Tryd.func20, Tryd.ntmps20
  go_wp2_with ((apply load_by rfl _ _ rfl _ rfl); (focus (with_reducible assumption)))
  refine (HS.out _).mono ?_
  rintro e W1 ⟨rfl, q1⟩
  have E1 := E0.trans q1
  have K1 := KW.ext q1
  obtain ⟨N, hN⟩ : ∃ N, 8 * r.n = N := ⟨_, rfl⟩
  clear KW lw E0 q1
  go_wp2_with fail
  go_loopw [7] (fun t wr => ∃ tn : Int, 0 ≤ tn ∧ tn ≤ 2 ∧ t = .int .i64 tn ∧ Ext w wr ∧ Blk wr w.heap.size 31 who.cells ∧ (∀ t', 0 ≤ t' → t' < tn → ∀ j, j < N → ¬ s.seek who t' j)) (fun t _ => (2 - intOf t).toNat)
  case atStart => exact ⟨0, by omega, by omega, rfl, E1, K1, fun t' h0 h1 => by omega⟩
  case round =>
    clear E1 K1
    obtain ⟨tn, t0, t2, rfl, Er, Kr, hb⟩ := hrel
    have HB := Lib.hid hb
    have HE := Lib.hid Er
    by_cases ht2 : tn = 2
    · subst ht2
      have hf := PS.take_none (s := s) HO.out (fun j hj => by have := HB.out 0 (by omega) (by omega) j (by omega); unfold PS.seek at this; rwa [if_pos rfl] at this) (fun j hj => by have := HB.out 1 (by omega) (by omega) j (by omega); unfold PS.seek at this; rwa [if_neg (by omega)] at this)
      have HF := Lib.hid hf
      clear hf hb Er Kr
      go_wp2_with fail
      go_returns
      obtain ⟨e1, e2, e3⟩ := HF.out
      rw [e1, e2, e3]
      exact ⟨rfl, ⟨r, HR.out.ext HE.out, HL.out⟩, HE.out.two⟩
    have htor : tn = 0 ∨ tn = 1 := by omega
    have dt : decide (tn < 2) = true := decide_eq_true (by omega)
    have wt : IntKind.i64.wrap (tn + 1) = tn + 1 := IntWalk.i64_in _ (by omega)
    clear hb
    go_wp2_with fail
    go_loopw [8] (fun i wr => ∃ m : Nat, m ≤ N ∧ i = .int .i64 (m : Int) ∧ Ext w wr ∧ Blk wr w.heap.size 31 who.cells ∧ (∀ j, j < m → ¬ s.seek who tn j)) (fun i _ => N - (intOf i).toNat)
    case atStart => exact ⟨0, Nat.zero_le _, rfl, Er, Kr, fun j hj => by omega⟩
    case round =>
      clear Er Kr
      obtain ⟨m, hm, rfl, Em, Km, hbm⟩ := hrel
      have HBM := Lib.hid hbm
      have HEM := Lib.hid Em
      have HKM := Lib.hid Km
      have RM := HR.out.ext Em
      have c0 := RM.c0
      have c1 := RM.c1
      rw [hN] at c0 c1
      clear hbm
      by_cases hlt : m < N
      case neg =>
        have d1 : decide ((m : Int) < (N : Int)) = false := decide_eq_false (by omega)
        obtain rfl : m = N := by omega
        clear RM Em Km
        go_wp2_with fail
        go_roundw
        case rel => exact ⟨tn + 1, by omega, by omega, by go_num, HEM.out, HKM.out, fun t' g0 g1 => by
          by_cases he : t' = tn
          · subst he; exact HBM.out
          · exact HB.out t' g0 (by omega)⟩
        case measure => simp [intOf] <;> omega
      have d1 : decide ((m : Int) < (N : Int)) = true := decide_eq_true (by omega)
      have hlt' : (m : Int) < (N : Int) := by omega
      have q1 : Int.tdiv (m : Int) 8 = ((m / 8 : Nat) : Int) := by rw [Int.tdiv_eq_ediv_of_nonneg (by omega)]; omega
      have q2 : IntKind.i64.wrap ((m / 8 : Nat) : Int) = ((m / 8 : Nat) : Int) := IntWalk.i64_in _ (by omega)
      have HOW := Lib.hid (rowner_any gM gW gT s r (m / 8) wr RM HL.out (by omega))
      have wm : IntKind.i64.wrap ((m : Int) + 1) = (m : Int) + 1 := IntWalk.i64_in _ (by omega)
      generalize hq : ((m / 8 : Nat) : Int) = Q at *
      clear RM Em Km hq
      go_wp2_with fail
      refine HOW.out.mono ?_
      rintro e W2 ⟨rfl, E2⟩
      have KZ := Blk.new W2 31 zc6
      have st := KZ.store (ty := 31) (cs := (s.hold (m / 8)).cells) rfl Tryd.size6 (by simp [Six.cells, Value.oneCell'])
      have K3 := KZ.row (s.hold (m / 8)).cells
      have E3 := ((HEM.out.trans E2).alloc (.cells zc6 31)).row (k := W2.heap.size) (by have := HEM.out.size; have := E2.size; omega) (s.hold (m / 8)).cells
      have hk2 : W2.heap.size ≠ w.heap.size := by have := HKM.out.lt; have := E2.size; omega
      have KW3 := ((HKM.out.ext E2).alloc (.cells zc6 31)).farRow (k := W2.heap.size) (fun h => hk2 h.symm) (s.hold (m / 8)).cells
      clear KZ HOW E2 HEM HKM c0 c1
      go_upto_region 11 with (((apply store_by rfl _ _ _ rfl _ rfl); (focus (with_reducible assumption)); (focus rfl)))
      refine at_worldE (fun W => Ext w W ∧ Blk W w.heap.size 31 who.cells ∧ Blk W W2.heap.size 31 (s.hold (m / 8)).cells) ⟨E3, KW3, K3⟩ ?_
      clear st E3 KW3 K3 q1 q2
      rintro W3 ⟨E3, KW3, K3⟩
      have R3 := HR.out.ext E3
      have c1 := R3.c1
      have ct := R3.tk (i := m) (by omega)
      rw [HTK.out] at ct
      rw [hN] at c1
      have HE3 := Lib.hid E3
      have HK3 := Lib.hid KW3
      have cf := R3.tak.free m
      have hstep : ¬ s.seek who tn m → ∀ j, j < m + 1 → ¬ s.seek who tn j := fun hn j hj => by
        by_cases he : j = m
        · rw [he]; exact hn
        · exact HBM.out j (by omega)
      have HSTEP := Lib.hid hstep
      have htk : s.tk m = true ∨ s.tk m = false := by cases s.tk m <;> simp
      have hfound : s.seek who tn m → s.takeQ who = 0 ∧ PA.gets s who = m := fun hs => by
        rcases htor with rfl | rfl
        · refine PS.take_at0 HO.out (by omega) (by unfold PS.seek at hs; rwa [if_pos rfl] at hs) fun j hj => ?_
          have := HBM.out j hj
          unfold PS.seek at this
          rwa [if_pos rfl] at this
        · refine PS.take_at1 HO.out (fun j hj => ?_) (by omega) (by unfold PS.seek at hs; rwa [if_neg (by omega)] at hs) fun j hj => ?_
          · have := HB.out 0 (by omega) (by omega) j (by omega)
            unfold PS.seek at this
            rwa [if_pos rfl] at this
          · have := HBM.out j hj
            unfold PS.seek at this
            rwa [if_neg (by omega)] at this
      have HFO := Lib.hid hfound
      clear E3 hstep hfound
      rcases htk with ht | ht
      · have hns : ¬ s.seek who tn m := fun hs => by
          unfold PS.seek PS.mineAt PS.freshAt at hs
          split at hs
          · rw [ht] at hs; cases hs.1
          · rw [ht] at hs; cases hs.1
        have HNX := Lib.hid (HSTEP.out hns)
        rw [ht] at ct
        clear hns KW3 K3 R3 cf
        go_wp2_with (first | ((apply load_by rfl _ _ rfl _ rfl); (focus (with_reducible assumption))))
        go_roundw
        case rel => exact ⟨m + 1, by omega, by go_num, HE3.out, HK3.out, HNX.out⟩
        case measure => simp [intOf] <;> omega
      have HT := Lib.hid ht
      rw [ht] at ct
      rcases htor with rfl | rfl
      · by_cases hmz : s.many (m / 8) = 0
        · have his : s.is (m / 8) = false := by unfold PS.is; exact decide_eq_false (by omega)
          have hns : ¬ s.seek who 0 m := fun hs => by
            unfold PS.seek PS.mineAt at hs
            rw [if_pos rfl] at hs
            omega
          have HNX := Lib.hid (HSTEP.out hns)
          rw [his]
          clear hns KW3 K3 R3 cf ht
          go_wp2_with (first | ((apply load_by rfl _ _ rfl _ rfl); (focus (with_reducible assumption))))
          go_roundw
          case rel => exact ⟨m + 1, by omega, by go_num, HE3.out, HK3.out, HNX.out⟩
          case measure => simp [intOf] <;> omega
        · have his : s.is (m / 8) = true := by unfold PS.is; exact decide_eq_true (by omega)
          have hho : s.hold (m / 8) = s.own (m / 8) := by unfold PS.hold; rw [if_neg hmz]
          rw [hho] at K3
          have la := K3.six0
          have lb := KW3.six0
          have lc := fun W => six_eq (s.own (m / 8)) who W
          rw [his]
          cases hsq : sixEq (s.own (m / 8)) who
          case false =>
            have hns : ¬ s.seek who 0 m := fun hs => by
              unfold PS.seek PS.mineAt at hs
              rw [if_pos rfl] at hs
              rw [hs.2.2, sixEq_self] at hsq
              cases hsq
            have HNX := Lib.hid (HSTEP.out hns)
            rw [hsq] at lc
            clear hns KW3 K3 R3 cf ht
            go_wp2_with (first | ((apply load_by rfl _ _ rfl _ rfl); (focus (with_reducible assumption))))
            go_roundw
            case rel => exact ⟨m + 1, by omega, by go_num, HE3.out, HK3.out, HNX.out⟩
            case measure => simp [intOf] <;> omega
          case true =>
            have hsk : s.seek who 0 m := by
              unfold PS.seek PS.mineAt
              rw [if_pos rfl]
              exact ⟨ht, by omega, sixEq_iff.1 hsq⟩
            have HFD := Lib.hid (HFO.out hsk)
            rw [hsq] at lc
            clear hsk ht KW3 K3
            go_upto_region 13 with (first | ((apply load_by rfl _ _ rfl _ rfl); (focus (with_reducible assumption))))
            have hwT : w.heap.size ≠ gT := by omega
            have hwW : w.heap.size ≠ gW := by omega
            refine at_worldE (fun W => Rrt W gM gW gT (r.set m true) ∧ Blk W w.heap.size 31 who.cells ∧ Two w W gW gT) ⟨R3.put m true, HK3.out.far hwT _, HE3.out.two.trans (Two.right (only_set (World.grownBy.refl _ _) _ _))⟩ ?_
            clear c1 ct cf R3
            rintro W4 ⟨R4, K4, T4⟩
            have hmr : m < 8 * (r.set m true).n := by show m < 8 * r.n; omega
            have c4 : W4.cell? ⟨gM, 0, none⟩ = some (.slice (some ⟨gW, 0, none⟩) N N) := by rw [← hN]; exact R4.c0
            refine wp_region_held_drew (S := (fun w' => w'.cell? ⟨gM, 0, none⟩ = some (.slice (some ⟨gW, 0, none⟩) N N) ∧ Blk w' w.heap.size 31 who.cells)) (by kernel_rfl) ⟨c4, K4.drew⟩ (fun hS0 => ?_)
            (refine wpAnyH_take (i := 0) (v := ?_) rfl (by kernel_rfl) (by kernel_rfl) (by kernel_rfl) (fun _ _ _ h => h) (Or.inl ⟨by rfl, ?_⟩) (by assumption) ?_; rotate_left; focus (intro w hSw; (try dsimp only at hSw); go_simp; try with_reducible rfl); try simp only [Act.put, List.getElem_toArray, List.getElem_cons_succ, List.getElem_cons_zero, List.setIfInBounds_toArray, List.set_cons_zero, List.set_cons_succ])
            (refine wpAnyH_take (i := 1) (v := ?_) rfl (by kernel_rfl) (by kernel_rfl) (by kernel_rfl) (fun _ _ _ h => h) (Or.inl ⟨by rfl, ?_⟩) (by assumption) ?_; rotate_left; focus (intro w hSw; (try dsimp only at hSw); go_simp; try with_reducible rfl); try simp only [Act.put, List.getElem_toArray, List.getElem_cons_succ, List.getElem_cons_zero, List.setIfInBounds_toArray, List.set_cons_zero, List.set_cons_succ])
            (refine wpAnyH_take (i := 2) (v := ?_) rfl (by kernel_rfl) (by kernel_rfl) (by kernel_rfl) (fun _ _ _ h => h) (Or.inl ⟨by rfl, ?_⟩) (by assumption) ?_; rotate_left; focus (intro w hSw; (try dsimp only at hSw); go_simp; try with_reducible rfl); try simp only [Act.put, List.getElem_toArray, List.getElem_cons_succ, List.getElem_cons_zero, List.setIfInBounds_toArray, List.set_cons_zero, List.set_cons_succ])
            (refine wpAnyH_take (i := 4) (v := ?_) rfl (by kernel_rfl) (by kernel_rfl) (by kernel_rfl) (fun _ _ _ h => h) (Or.inl ⟨by rfl, ?_⟩) (by assumption) ?_; rotate_left; focus (intro w hSw; (try dsimp only at hSw); go_simp; try with_reducible rfl); try simp only [Act.put, List.getElem_toArray, List.getElem_cons_succ, List.getElem_cons_zero, List.setIfInBounds_toArray, List.set_cons_zero, List.set_cons_succ])
            (refine wpAnyH_take (i := 3) (v := ?_) rfl (by kernel_rfl) (by kernel_rfl) (by kernel_rfl) (fun _ _ _ h => h) (Or.inl ⟨by rfl, ?_⟩) (by assumption) ?_; rotate_left; focus (intro w hSw; (try dsimp only at hSw); go_simp; try with_reducible rfl); try simp only [Act.put, List.getElem_toArray, List.getElem_cons_succ, List.getElem_cons_zero, List.setIfInBounds_toArray, List.set_cons_zero, List.set_cons_succ])
            refine wpAnyH_take (i := 5) rfl (by kernel_rfl) (by kernel_rfl) (by kernel_rfl) (fun _ _ _ h => h) (Or.inl ⟨by rfl, fun W hS => exec_load rfl rfl (Blk.six0 hS.2)⟩) (by assumption) ?_
            (try simp only [Act.put, List.getElem_toArray, List.getElem_cons_succ, List.getElem_cons_zero, List.setIfInBounds_toArray, List.set_cons_zero, List.set_cons_succ])
            (refine wpAnyH_take (i := 6) (v := ?_) rfl (by kernel_rfl) (by kernel_rfl) (by kernel_rfl) (fun _ _ _ h => h) (Or.inl ⟨by rfl, ?_⟩) (by assumption) ?_; rotate_left; focus (intro w hSw; (try dsimp only at hSw); go_simp; try with_reducible rfl); try simp only [Act.put, List.getElem_toArray, List.getElem_cons_succ, List.getElem_cons_zero, List.setIfInBounds_toArray, List.set_cons_zero, List.set_cons_succ])
            (try simp only [Act.put, List.getElem_toArray, List.getElem_cons_succ, List.getElem_cons_zero, List.setIfInBounds_toArray, List.set_cons_zero, List.set_cons_succ])
            (refine wpAnyH_ready (rs := [7]) (by kernel_rfl) (by simp) ?_; refine AllReadyH.cons rfl (fun K hK => ?_) AllReadyH.nil)
            rw [if_pos (by rfl)]
            refine wp_store_at _ _ _ rfl _ rfl (R4.drew.swho hmr who) rfl ?_
            have R5 := R4.drew.give hmr who
            have T5 : Two w _ gW gT := T4.drew.trans (Two.left (only_cells who.cells.toList (m * 8) (World.grownBy.refl _ _)))
            have c5 := R5.c0
            rw [show 8 * ((r.set m true).give m who).n = N from hN] at c5
            refine hK.out _ _ ⟨c5, K4.drew.only (only_cells who.cells.toList (m * 8) (World.grownBy.refl _ _)) hwW⟩ ?_
            clear hK K
            intro hS
            refine wpAnyH_done (by kernel_rfl) ?_ _
            have HR5 := Lib.hid R5
            have HT5 := Lib.hid T5
            have wf : IntKind.i64.wrap (1024 + (m : Int)) = 1024 + (m : Int) := IntWalk.i64_in _ (by omega)
            clear R5 T5 c5 hS0 hS
            go_wp2_with fail
            go_returns
            obtain ⟨q0, g0⟩ := HFD.out
            rw [PS.takeN_gets q0, g0, q0]
            exact ⟨rfl, ⟨_, HR5.out, g0 ▸ HL.out.take q0⟩, HT5.out⟩
      · by_cases hmz : s.many (m / 8) = 0
        · have his : s.is (m / 8) = false := by unfold PS.is; exact decide_eq_false (by omega)
          have hsk : s.seek who 1 m := by
            unfold PS.seek PS.freshAt
            rw [if_neg (by omega)]
            exact ⟨ht, hmz⟩
          have HFD := Lib.hid (HFO.out hsk)
          rw [his]
          clear hsk ht KW3 K3
          go_upto_region 13 with (first | ((apply load_by rfl _ _ rfl _ rfl); (focus (with_reducible assumption))))
          have hwT : w.heap.size ≠ gT := by omega
          have hwW : w.heap.size ≠ gW := by omega
          refine at_worldE (fun W => Rrt W gM gW gT (r.set m true) ∧ Blk W w.heap.size 31 who.cells ∧ Two w W gW gT) ⟨R3.put m true, HK3.out.far hwT _, HE3.out.two.trans (Two.right (only_set (World.grownBy.refl _ _) _ _))⟩ ?_
          clear c1 ct cf R3
          rintro W4 ⟨R4, K4, T4⟩
          have hmr : m < 8 * (r.set m true).n := by show m < 8 * r.n; omega
          have c4 : W4.cell? ⟨gM, 0, none⟩ = some (.slice (some ⟨gW, 0, none⟩) N N) := by rw [← hN]; exact R4.c0
          refine wp_region_held_drew (S := (fun w' => w'.cell? ⟨gM, 0, none⟩ = some (.slice (some ⟨gW, 0, none⟩) N N) ∧ Blk w' w.heap.size 31 who.cells)) (by kernel_rfl) ⟨c4, K4.drew⟩ (fun hS0 => ?_)
          (refine wpAnyH_take (i := 0) (v := ?_) rfl (by kernel_rfl) (by kernel_rfl) (by kernel_rfl) (fun _ _ _ h => h) (Or.inl ⟨by rfl, ?_⟩) (by assumption) ?_; rotate_left; focus (intro w hSw; (try dsimp only at hSw); go_simp; try with_reducible rfl); try simp only [Act.put, List.getElem_toArray, List.getElem_cons_succ, List.getElem_cons_zero, List.setIfInBounds_toArray, List.set_cons_zero, List.set_cons_succ])
          (refine wpAnyH_take (i := 1) (v := ?_) rfl (by kernel_rfl) (by kernel_rfl) (by kernel_rfl) (fun _ _ _ h => h) (Or.inl ⟨by rfl, ?_⟩) (by assumption) ?_; rotate_left; focus (intro w hSw; (try dsimp only at hSw); go_simp; try with_reducible rfl); try simp only [Act.put, List.getElem_toArray, List.getElem_cons_succ, List.getElem_cons_zero, List.setIfInBounds_toArray, List.set_cons_zero, List.set_cons_succ])
          (refine wpAnyH_take (i := 2) (v := ?_) rfl (by kernel_rfl) (by kernel_rfl) (by kernel_rfl) (fun _ _ _ h => h) (Or.inl ⟨by rfl, ?_⟩) (by assumption) ?_; rotate_left; focus (intro w hSw; (try dsimp only at hSw); go_simp; try with_reducible rfl); try simp only [Act.put, List.getElem_toArray, List.getElem_cons_succ, List.getElem_cons_zero, List.setIfInBounds_toArray, List.set_cons_zero, List.set_cons_succ])
          (refine wpAnyH_take (i := 4) (v := ?_) rfl (by kernel_rfl) (by kernel_rfl) (by kernel_rfl) (fun _ _ _ h => h) (Or.inl ⟨by rfl, ?_⟩) (by assumption) ?_; rotate_left; focus (intro w hSw; (try dsimp only at hSw); go_simp; try with_reducible rfl); try simp only [Act.put, List.getElem_toArray, List.getElem_cons_succ, List.getElem_cons_zero, List.setIfInBounds_toArray, List.set_cons_zero, List.set_cons_succ])
          (refine wpAnyH_take (i := 3) (v := ?_) rfl (by kernel_rfl) (by kernel_rfl) (by kernel_rfl) (fun _ _ _ h => h) (Or.inl ⟨by rfl, ?_⟩) (by assumption) ?_; rotate_left; focus (intro w hSw; (try dsimp only at hSw); go_simp; try with_reducible rfl); try simp only [Act.put, List.getElem_toArray, List.getElem_cons_succ, List.getElem_cons_zero, List.setIfInBounds_toArray, List.set_cons_zero, List.set_cons_succ])
          refine wpAnyH_take (i := 5) rfl (by kernel_rfl) (by kernel_rfl) (by kernel_rfl) (fun _ _ _ h => h) (Or.inl ⟨by rfl, fun W hS => exec_load rfl rfl (Blk.six0 hS.2)⟩) (by assumption) ?_
          (try simp only [Act.put, List.getElem_toArray, List.getElem_cons_succ, List.getElem_cons_zero, List.setIfInBounds_toArray, List.set_cons_zero, List.set_cons_succ])
          (refine wpAnyH_take (i := 6) (v := ?_) rfl (by kernel_rfl) (by kernel_rfl) (by kernel_rfl) (fun _ _ _ h => h) (Or.inl ⟨by rfl, ?_⟩) (by assumption) ?_; rotate_left; focus (intro w hSw; (try dsimp only at hSw); go_simp; try with_reducible rfl); try simp only [Act.put, List.getElem_toArray, List.getElem_cons_succ, List.getElem_cons_zero, List.setIfInBounds_toArray, List.set_cons_zero, List.set_cons_succ])
          (try simp only [Act.put, List.getElem_toArray, List.getElem_cons_succ, List.getElem_cons_zero, List.setIfInBounds_toArray, List.set_cons_zero, List.set_cons_succ])
          (refine wpAnyH_ready (rs := [7]) (by kernel_rfl) (by simp) ?_; refine AllReadyH.cons rfl (fun K hK => ?_) AllReadyH.nil)
          rw [if_pos (by rfl)]
          refine wp_store_at _ _ _ rfl _ rfl (R4.drew.swho hmr who) rfl ?_
          have R5 := R4.drew.give hmr who
          have T5 : Two w _ gW gT := T4.drew.trans (Two.left (only_cells who.cells.toList (m * 8) (World.grownBy.refl _ _)))
          have c5 := R5.c0
          rw [show 8 * ((r.set m true).give m who).n = N from hN] at c5
          refine hK.out _ _ ⟨c5, K4.drew.only (only_cells who.cells.toList (m * 8) (World.grownBy.refl _ _)) hwW⟩ ?_
          clear hK K
          intro hS
          refine wpAnyH_done (by kernel_rfl) ?_ _
          have HR5 := Lib.hid R5
          have HT5 := Lib.hid T5
          have wf : IntKind.i64.wrap (1024 + (m : Int)) = 1024 + (m : Int) := IntWalk.i64_in _ (by omega)
          clear R5 T5 c5 hS0 hS
          go_wp2_with fail
          go_returns
          obtain ⟨q0, g0⟩ := HFD.out
          rw [PS.takeN_gets q0, g0, q0]
          exact ⟨rfl, ⟨_, HR5.out, g0 ▸ HL.out.take q0⟩, HT5.out⟩
        · have his : s.is (m / 8) = true := by unfold PS.is; exact decide_eq_true (by omega)
          have hns : ¬ s.seek who 1 m := fun hs => by
            unfold PS.seek PS.freshAt at hs
            rw [if_neg (by omega)] at hs
            omega
          have HNX := Lib.hid (HSTEP.out hns)
          rw [his]
          clear hns KW3 K3 R3 cf ht
          go_wp2_with (first | ((apply load_by rfl _ _ rfl _ rfl); (focus (with_reducible assumption))))
          go_roundw
          case rel => exact ⟨m + 1, by omega, by go_num, HE3.out, HK3.out, HNX.out⟩
          case measure => simp [intOf] <;> omega
end Go.Proofs.YtapmbjmcbllalaaDoor
