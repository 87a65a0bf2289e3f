/- The document's answer on servers: PickOf where all may be. Conditions: as each theorem states them. -/
import Derived.Test.YtapmbjmcbllalaaDoorRefK
import Derived.Deep.RegionHeld3
import Derived.Test.YtapmbjmcbllalaaDoorTake
import Derived.Deep.DeepCutAuto
namespace Go.Proofs.YtapmbjmcbllalaaDoor
open Go.RowKit
/-- What the loop of PickOf has found in the first k servers. -/
def CurR (seed : Int) (f : Flow) (bs : List Pl.Back) (k : Nat) (b m : Value) : Prop :=
  (b = .int .i64 (-1) ∧ m = .int .i64 0 ∧ Pl.best (Pl.worth seed f) (bs.take k) = none) ∨
  ∃ j : Nat, j < k ∧ b = .int .i64 j ∧ m = .int .i64 (Pl.worth seed f (bs.getD j Pl.back0)) ∧ Pl.best (Pl.worth seed f) (bs.take k) = some (bs.getD j Pl.back0)
theorem Cur.ref {seed : Int} {f : Flow} {bs : List Pl.Back} {k : Nat} {b m : Value} (h : Cur seed f bs k b m) (hb : b ≠ .int .i64 (-1)) : CurR seed f bs k b m := by
  rcases h with ⟨h1, _⟩ | h
  · exact absurd h1 hb
  · exact .inr h
theorem CurR.skip {seed : Int} {f : Flow} {bs : List Pl.Back} {k : Nat} {b m : Value} (h : CurR seed f bs k b m) (hk : k < bs.length) (he : ¬ Pl.Elig (bs.getD k Pl.back0)) : CurR seed f bs (k + 1) b m := by
  have e := best_next seed f hk
  unfold Pl.step at e
  rw [if_neg he] at e
  rcases h with ⟨h1, h2, h3⟩ | ⟨j, hj, h1, h2, h3⟩
  · exact .inl ⟨h1, h2, e.trans h3⟩
  · exact .inr ⟨j, by omega, h1, h2, e.trans h3⟩
theorem int_ne {x : Int} (h : x ≠ -1) : Value.int .i64 x ≠ .int .i64 (-1) := fun e => h (by cases e; rfl)
theorem CurR.first {seed : Int} {f : Flow} {bs : List Pl.Back} {k : Nat} (h : Pl.best (Pl.worth seed f) (bs.take k) = none) (hk : k < bs.length) (he : Pl.Elig (bs.getD k Pl.back0)) :
    CurR seed f bs (k + 1) (.int .i64 k) (.int .i64 (Pl.worth seed f (bs.getD k Pl.back0))) := (Cur.first h hk he).ref (int_ne (by omega))
theorem CurR.better {seed : Int} {f : Flow} {bs : List Pl.Back} {k j : Nat} (h : Pl.best (Pl.worth seed f) (bs.take k) = some (bs.getD j Pl.back0)) (hk : k < bs.length) (he : Pl.Elig (bs.getD k Pl.back0)) (hb : Pl.Beats (Pl.worth seed f) (bs.getD j Pl.back0) (bs.getD k Pl.back0)) :
    CurR seed f bs (k + 1) (.int .i64 k) (.int .i64 (Pl.worth seed f (bs.getD k Pl.back0))) := (Cur.better h hk he hb).ref (int_ne (by omega))
theorem CurR.stay {seed : Int} {f : Flow} {bs : List Pl.Back} {k j : Nat} (h : Pl.best (Pl.worth seed f) (bs.take k) = some (bs.getD j Pl.back0)) (hj : j < k) (hk : k < bs.length) (he : Pl.Elig (bs.getD k Pl.back0)) (hb : ¬ Pl.Beats (Pl.worth seed f) (bs.getD j Pl.back0) (bs.getD k Pl.back0)) :
    CurR seed f bs (k + 1) (.int .i64 j) (.int .i64 (Pl.worth seed f (bs.getD j Pl.back0))) := (Cur.stay h hj hk he hb).ref (int_ne (by omega))
/-- The fault of a choice: that of the servers, or the score's. -/
def pq (q : Int) : Int := if q = 0 then 1 else q
theorem pq_ne (q : Int) : pq q ≠ 0 := by unfold pq; split <;> omega
/-- The document's choice. -/
def PickR (seed : Int) (f : Flow) (bs : List Pl.Back) (e : Ending) : Prop :=
  (Pl.best (Pl.worth seed f) bs = none ∧ e = .returned (.tuple #[backv Pl.back0, .int .i64 4])) ∨ ∃ x, Pl.best (Pl.worth seed f) bs = some x ∧ e = .returned (.tuple #[backv x, .int .i64 0])

set_option maxRecDepth 100000 in
set_option maxHeartbeats 8000000 in
theorem rpick_ok (seed : Int) (f : Flow) (a : Option Addr) (n c : Nat) (bs : List Pl.Back) (w : World) (hb : Backs w a n bs) (hok : Pl.OkBacks bs) (hs : 0 ≤ seed ∧ seed < 2147483648) (hf : f.Ok) :
    Calls Tryd.prog 17 #[.int .i64 seed, f.v, .slice a n c] w fun e w' => PickR seed f bs e ∧ Ext w w' := by
  have HB := Lib.hid hb
  have HL := Lib.hid hb.1
  have HO := Lib.hid hok
  have HS := Lib.hid hs
  have HF := Lib.hid hf
  have hn8 : n ≤ 8 := by rw [← hb.1]; exact hok.1
  obtain ⟨s0, s1⟩ := hs
  clear hb hok hf
  have K0 := Blk.new w 37 f.cells
  have E0 : Ext w (w.alloc (.cells f.cells 37)) := (Ext.refl w).alloc _
  go_enter Tryd.func17, Tryd.ntmps17
  go_wp2_with fail
  refine at_world (fun W => Ext w W ∧ Blk W w.heap.size 37 f.cells ∧ Blk W (w.heap.size + 1) 53 #[.int .i64 Pl.back0.id, .int .i64 Pl.back0.addr, .int .i64 Pl.back0.door, .int .i64 Pl.back0.weight, .bool Pl.back0.up, .bool Pl.back0.drain]) ⟨E0.alloc _, K0.alloc _, Blk.at _ _ _ (by simp)⟩ ?_
  rintro W1 ⟨E1, k1, r1⟩
  refine (rbacks_any a n c bs W1 (HB.out.ext E1)).mono ?_
  rintro e W2 ⟨⟨i, q, hpf, rfl⟩, q2⟩
  obtain rfl : q = 0 := by
    by_cases hq : q = 0
    · exact hq
    · exact absurd HO.out (hpf.bad hq)
  have k2 := k1.ext q2
  have r2 := r1.ext q2
  have E2 := E1.trans q2
  have l2 := k2.flow
  clear hpf
  go_wp2_with ((apply load_by rfl _ _ rfl _ rfl); (focus (with_reducible assumption)))
  refine (rscore_ok seed f 0 W2 HS.out ⟨by omega, by omega⟩ HF.out).mono ?_
  rintro e W3 ⟨rfl, q3⟩
  have k3 := k2.ext q3
  have r3 := r2.ext q3
  have E3 := E2.trans q3
  clear l2
  go_wp2_with fail
  go_loopw [10, 11, 12] (fun b m i wr => ∃ k : Nat, k ≤ n ∧ i = .int .i64 k ∧ Ext w wr ∧ Blk wr w.heap.size 37 f.cells ∧ Blk wr (w.heap.size + 1) 53 #[.int .i64 Pl.back0.id, .int .i64 Pl.back0.addr, .int .i64 Pl.back0.door, .int .i64 Pl.back0.weight, .bool Pl.back0.up, .bool Pl.back0.drain] ∧ CurR seed f bs k b m) (fun _ _ i _ => n - (intOf i).toNat)
  case atStart => exact ⟨0, Nat.zero_le _, rfl, E3, k3, r3, .inl ⟨rfl, rfl, rfl⟩⟩
  case round =>
    obtain ⟨k, hk, rfl, E4, k4, r4, hcur⟩ := hrel
    clear E0 E1 E2 E3 K0 k1 k2 k3 r1 r2 r3 q2 q3
    by_cases hlt : k < n
    case neg =>
      obtain rfl : n = k := by omega
      have hall : bs.take n = bs := List.take_of_length_le (by rw [HL.out]; omega)
      unfold CurR at hcur
      rw [hall] at hcur
      clear hall
      rcases hcur with ⟨rfl, rfl, hn⟩ | ⟨j, hj, rfl, rfl, hsome⟩
      case inl =>
        have HN := Lib.hid hn
        clear hn
        have rc := r4.cells
        have rf := r4.free
        go_wp2_with fail
        have r5 : Blk _ (w.heap.size + 1) 53 #[.int .i64 Pl.back0.id, .int .i64 Pl.back0.addr, .int .i64 Pl.back0.door, .int .i64 Pl.back0.weight, .bool Pl.back0.up, .bool Pl.back0.drain] := (((((r4.put 0 (.int .i64 0)).put 1 (.int .i64 0)).put 2 (.int .i64 0)).put 3 (.int .i64 0)).put 4 (.bool false)).put 5 (.bool false)
        have rc5 := r5.cells
        refine bodyPost_ret (v := .tuple #[backv Pl.back0, .int .i64 4]) (by simp [results, Tryd.results17, go_sem, rc5]) rfl ⟨.inl ⟨HN.out, rfl⟩, ?_⟩
        exact (((((E4.set (p := ⟨w.heap.size + 1, 0, none⟩) (by show _ ≤ w.heap.size + 1; omega) _).set (p := ⟨w.heap.size + 1, 1, none⟩) (by show _ ≤ w.heap.size + 1; omega) _).set (p := ⟨w.heap.size + 1, 2, none⟩) (by show _ ≤ w.heap.size + 1; omega) _).set (p := ⟨w.heap.size + 1, 3, none⟩) (by show _ ≤ w.heap.size + 1; omega) _).set (p := ⟨w.heap.size + 1, 4, none⟩) (by show _ ≤ w.heap.size + 1; omega) _).set (p := ⟨w.heap.size + 1, 5, none⟩) (by show _ ≤ w.heap.size + 1; omega) _
      case inr =>
        obtain ⟨b, off, rfl, hbl, hc⟩ := HB.out.at E4 (by omega)
        obtain ⟨c0, c1, c2, c3, c4, c5⟩ := hc j hj
        generalize bs.getD j Pl.back0 = x at *
        have HSM := Lib.hid hsome
        have rc := r4.cells
        have rf := r4.free
        have hj0 : (0 : Int) ≤ (j : Int) := by omega
        have hjn : (j : Int) < (n : Int) := by omega
        clear hc hsome
        go_wp2_with fail
        have r5 : Blk _ (w.heap.size + 1) 53 #[.int .i64 x.id, .int .i64 x.addr, .int .i64 x.door, .int .i64 x.weight, .bool x.up, .bool x.drain] := (((((r4.put 0 (.int .i64 x.id)).put 1 (.int .i64 x.addr)).put 2 (.int .i64 x.door)).put 3 (.int .i64 x.weight)).put 4 (.bool x.up)).put 5 (.bool x.drain)
        have rc5 := r5.cells
        refine bodyPost_ret (v := .tuple #[backv x, .int .i64 0]) (by simp [results, Tryd.results17, go_sem, rc5]) rfl ⟨.inr ⟨x, HSM.out, rfl⟩, ?_⟩
        exact (((((E4.set (p := ⟨w.heap.size + 1, 0, none⟩) (by show _ ≤ w.heap.size + 1; omega) _).set (p := ⟨w.heap.size + 1, 1, none⟩) (by show _ ≤ w.heap.size + 1; omega) _).set (p := ⟨w.heap.size + 1, 2, none⟩) (by show _ ≤ w.heap.size + 1; omega) _).set (p := ⟨w.heap.size + 1, 3, none⟩) (by show _ ≤ w.heap.size + 1; omega) _).set (p := ⟨w.heap.size + 1, 4, none⟩) (by show _ ≤ w.heap.size + 1; omega) _).set (p := ⟨w.heap.size + 1, 5, none⟩) (by show _ ≤ w.heap.size + 1; omega) _
    case pos =>
      obtain ⟨b, off, rfl, hbl, hc⟩ := HB.out.at E4 (by omega)
      obtain ⟨c0, c1, c2, c3, c4, c5⟩ := hc k hlt
      have hkl : k < bs.length := by rw [HL.out]; exact hlt
      have hnum := HO.out.num (b := bs.getD k Pl.back0) (by simp [List.getD, hkl])
      have hskip := fun he => hcur.skip hkl he
      have hfirst := fun h he => CurR.first (seed := seed) (f := f) h hkl he
      have hbetter := fun j h he hb => CurR.better (seed := seed) (f := f) (j := j) h hkl he hb
      have hstay := fun j h hj he hb => CurR.stay (seed := seed) (f := f) (j := j) h hj hkl he hb
      have hworth : Pl.worth seed f (bs.getD k Pl.back0) = Pl.score seed f (bs.getD k Pl.back0).id * (bs.getD k Pl.back0).weight := rfl
      generalize bs.getD k Pl.back0 = x at *
      obtain ⟨xi, xa, xd, xw, xu, xr⟩ := x
      dsimp only at c0 c1 c2 c3 c4 c5 hnum hworth
      have HC := Lib.hid hc
      have HW := Lib.hid hworth
      have HSK := Lib.hid hskip
      have HFI := Lib.hid hfirst
      have HBE := Lib.hid hbetter
      have HST := Lib.hid hstay
      have l4 := k4.lt
      have hkli : (k : Int) < (n : Int) := by omega
      clear hc hworth hskip hfirst hbetter hstay
      by_cases hel : Pl.Elig ⟨xi, xa, xd, xw, xu, xr⟩
      case neg =>
        have HE := Lib.hid hel
        cases xu with
        | false =>
          clear hel
          go_wp2_with fail
          go_roundw
          case rel => exact ⟨k + 1, by omega, by go_num, E4, k4, r4, HSK.out HE.out⟩
          case measure => simp [intOf] <;> omega
        | true =>
          cases xr with
          | true =>
            clear hel
            go_wp2_with fail
            go_roundw
            case rel => exact ⟨k + 1, by omega, by go_num, E4, k4, r4, HSK.out HE.out⟩
            case measure => simp [intOf] <;> omega
          | false =>
            have hw' : (xw == 0) = true := by
              by_cases hw : xw = 0
              · simpa using hw
              · exact absurd ⟨rfl, rfl, hw⟩ hel
            clear hel
            go_wp2_with fail
            go_roundw
            case rel => exact ⟨k + 1, by omega, by go_num, E4, k4, r4, HSK.out HE.out⟩
            case measure => simp [intOf] <;> omega
      case pos =>
        have HE := Lib.hid hel
        obtain ⟨hu, hd, hw⟩ := hel
        obtain rfl : xu = true := hu
        obtain rfl : xr = false := hd
        have hw' : (xw == 0) = false := by simpa using hw
        have fl := k4.cells
        unfold Flow.cells at fl
        have HSC := Lib.hid (fun W => rscore_ok seed f xi W HS.out hnum.1 HF.out)
        unfold Flow.v Flow.cells at HSC
        clear hw
        go_upto_region 13 with (fail)
        go_cut [13] (fun s wx => s = .int .i64 (Pl.score seed f xi) ∧ Ext wr wx)
        case first =>
          refine wp_region_held_drew (S := (fun w' => (Instr.loadAt 37 (.pointer (some ⟨w.heap.size, 0, none⟩))).run Tryd.prog w' = .ok (.agg f.cells) w' ∧ w'.cell? ⟨b, off + k * 6, none⟩ = some (.int .i64 xi))) (by kernel_rfl) ⟨(k4.drew).flow, c0⟩ (fun hS0 => ?_)
          (refine wpAnyH_take (i := 0) (v := ?_) rfl (by kernel_rfl) (by kernel_rfl) (by kernel_rfl) (fun _ _ _ h => h) (Or.inl ⟨by rfl, ?_⟩) (by assumption) ?_; rotate_left; focus (intro w hSw; (try dsimp only at hSw); go_simp; try with_reducible rfl); try simp only [Act.put, List.getElem_toArray, List.getElem_cons_succ, List.getElem_cons_zero, List.setIfInBounds_toArray, List.set_cons_zero, List.set_cons_succ])
          (refine wpAnyH_take (i := 1) (v := .agg f.cells) rfl (by kernel_rfl) (by kernel_rfl) (by kernel_rfl) (fun _ _ _ h => h) (Or.inl ⟨by rfl, fun w hSw => exec_load rfl rfl hSw.1⟩) (by assumption) ?_; (try simp only [Act.put, List.getElem_toArray, List.getElem_cons_succ, List.getElem_cons_zero, List.setIfInBounds_toArray, List.set_cons_zero, List.set_cons_succ]))
          (refine wpAnyH_take (i := 2) (v := ?_) rfl (by kernel_rfl) (by kernel_rfl) (by kernel_rfl) (fun _ _ _ h => h) (Or.inl ⟨by rfl, ?_⟩) (by assumption) ?_; rotate_left; focus (intro w hSw; (try dsimp only at hSw); go_simp; try with_reducible rfl); try simp only [Act.put, List.getElem_toArray, List.getElem_cons_succ, List.getElem_cons_zero, List.setIfInBounds_toArray, List.set_cons_zero, List.set_cons_succ])
          (refine wpAnyH_take (i := 3) (v := ?_) rfl (by kernel_rfl) (by kernel_rfl) (by kernel_rfl) (fun _ _ _ h => h) (Or.inl ⟨by rfl, ?_⟩) (by assumption) ?_; rotate_left; focus (intro w hSw; (try dsimp only at hSw); go_simp; try with_reducible rfl); try simp only [Act.put, List.getElem_toArray, List.getElem_cons_succ, List.getElem_cons_zero, List.setIfInBounds_toArray, List.set_cons_zero, List.set_cons_succ])
          (refine wpAnyH_take (i := 4) (v := ?_) rfl (by kernel_rfl) (by kernel_rfl) (by kernel_rfl) (fun _ _ _ h => h) (Or.inl ⟨by rfl, ?_⟩) (by assumption) ?_; rotate_left; focus (intro w hSw; (try dsimp only at hSw); go_simp; try with_reducible rfl); try simp only [Act.put, List.getElem_toArray, List.getElem_cons_succ, List.getElem_cons_zero, List.setIfInBounds_toArray, List.set_cons_zero, List.set_cons_succ])
          (refine wpAnyH_take (i := 5) (v := ?_) rfl (by kernel_rfl) (by kernel_rfl) (by kernel_rfl) (fun _ _ _ h => h) (Or.inl ⟨by rfl, ?_⟩) (by assumption) ?_; rotate_left; focus (intro w hSw; (try dsimp only at hSw); go_simp; try with_reducible rfl); try simp only [Act.put, List.getElem_toArray, List.getElem_cons_succ, List.getElem_cons_zero, List.setIfInBounds_toArray, List.set_cons_zero, List.set_cons_succ])
          (refine wpAnyH_take (i := 6) (v := ?_) rfl (by kernel_rfl) (by kernel_rfl) (by kernel_rfl) (fun _ _ _ h => h) (Or.inl ⟨by rfl, ?_⟩) (by assumption) ?_; rotate_left; focus (intro w hSw; (try dsimp only at hSw); go_simp; try with_reducible rfl); try simp only [Act.put, List.getElem_toArray, List.getElem_cons_succ, List.getElem_cons_zero, List.setIfInBounds_toArray, List.set_cons_zero, List.set_cons_succ])
          (refine wpAnyH_ready (rs := [7]) (by kernel_rfl) (by simp) ?_; refine AllReadyH.cons rfl (fun K hK => ?_) AllReadyH.nil)
          go_simp
          go_at_call 15
          refine (HSC.out _).mono ?_
          rintro e W7 ⟨rfl, q7⟩
          have cw : W7.cell? ⟨b, off + k * 6, none⟩ = some (.int .i64 xi) := (Below.cell (Ext.trans (Ext.drew (Ext.refl _)) q7) (p := ⟨b, off + k * 6, none⟩) (by have := E4.size; show b < _; omega)).trans c0
          refine hK.out _ _ ⟨((k4.drew).ext q7).flow, cw⟩ ?_
          clear hK K
          intro hS
          (try simp only [Act.put, List.getElem_toArray, List.getElem_cons_succ, List.getElem_cons_zero, List.setIfInBounds_toArray, List.set_cons_zero, List.set_cons_succ])
          (refine wpAnyH_take (i := 8) (v := ?_) rfl (by kernel_rfl) (by kernel_rfl) (by kernel_rfl) (fun _ _ _ h => h) (Or.inl ⟨by rfl, ?_⟩) (by assumption) ?_; rotate_left; focus (intro w hSw; (try dsimp only at hSw); go_simp; try with_reducible rfl); try simp only [Act.put, List.getElem_toArray, List.getElem_cons_succ, List.getElem_cons_zero, List.setIfInBounds_toArray, List.set_cons_zero, List.set_cons_succ])
          (refine wpAnyH_take (i := 9) (v := ?_) rfl (by kernel_rfl) (by kernel_rfl) (by kernel_rfl) (fun _ _ _ h => h) (Or.inl ⟨by rfl, ?_⟩) (by assumption) ?_; rotate_left; focus (intro w hSw; (try dsimp only at hSw); go_simp; try with_reducible rfl); try simp only [Act.put, List.getElem_toArray, List.getElem_cons_succ, List.getElem_cons_zero, List.setIfInBounds_toArray, List.set_cons_zero, List.set_cons_succ])
          (refine wpAnyH_take (i := 10) (v := ?_) rfl (by kernel_rfl) (by kernel_rfl) (by kernel_rfl) (fun _ _ _ h => h) (Or.inl ⟨by rfl, ?_⟩) (by assumption) ?_; rotate_left; focus (intro w hSw; (try dsimp only at hSw); go_simp; try with_reducible rfl); try simp only [Act.put, List.getElem_toArray, List.getElem_cons_succ, List.getElem_cons_zero, List.setIfInBounds_toArray, List.set_cons_zero, List.set_cons_succ])
          (refine wpAnyH_take (i := 11) (v := ?_) rfl (by kernel_rfl) (by kernel_rfl) (by kernel_rfl) (fun _ _ _ h => h) (Or.inl ⟨by rfl, ?_⟩) (by assumption) ?_; rotate_left; focus (intro w hSw; (try dsimp only at hSw); go_simp; try with_reducible rfl); try simp only [Act.put, List.getElem_toArray, List.getElem_cons_succ, List.getElem_cons_zero, List.setIfInBounds_toArray, List.set_cons_zero, List.set_cons_succ])
          (refine wpAnyH_take (i := 12) (v := ?_) rfl (by kernel_rfl) (by kernel_rfl) (by kernel_rfl) (fun _ _ _ h => h) (Or.inl ⟨by rfl, ?_⟩) (by assumption) ?_; rotate_left; focus (intro w hSw; (try dsimp only at hSw); go_simp; try with_reducible rfl); try simp only [Act.put, List.getElem_toArray, List.getElem_cons_succ, List.getElem_cons_zero, List.setIfInBounds_toArray, List.set_cons_zero, List.set_cons_succ])
          refine wpAnyH_done (by kernel_rfl) ?_ _
          go_wp2_with fail
          go_meet
          exact ⟨rfl, Ext.trans (Ext.drew (Ext.refl _)) q7⟩
        case rest =>
          obtain ⟨rfl, q7⟩ := hcut
          have E7 := E4.trans q7
          have k7 := k4.ext q7
          have r7 := r4.ext q7
          have cw : ∀ o, wc.cell? ⟨b, o, none⟩ = wr.cell? ⟨b, o, none⟩ := fun o => Below.cell q7 (p := ⟨b, o, none⟩) (by have := E4.size; show b < _; omega)
          replace c0 := (cw _).trans c0
          replace c3 := (cw _).trans c3
          have hsb := Pl.score_bd f xi HS.out
          have hP : 0 ≤ Pl.score seed f xi * xw ∧ Pl.score seed f xi * xw ≤ 83886080 := by
            obtain ⟨_, _, _, w0, w1⟩ := hnum
            have w0 : 0 ≤ xw := w0
            have w1 : xw ≤ 10 := w1
            refine ⟨Int.mul_nonneg hsb.1 w0, ?_⟩
            have h1 := Int.mul_le_mul_of_nonneg_right (show Pl.score seed f xi ≤ 8388608 by omega) w0
            have h2 : 8388608 * xw ≤ 83886080 := by omega
            omega
          have HCW := Lib.hid cw
          generalize Pl.score seed f xi = z at *
          have HP := Lib.hid HW.out
          obtain ⟨p0, p1⟩ := hP
          have ewP : IntKind.i64.wrap (z * xw) = z * xw := IntWalk.i64_in _ (by omega)
          clear c1 c2 c4 c5 hnum hsb cw fl
          rcases hcur with ⟨rfl, rfl, hn⟩ | ⟨j, hj, rfl, rfl, hsome⟩
          case inl =>
            have HN := Lib.hid hn
            clear hn
            go_wp2_with fail
            go_quiet (fail)
            go_wp2_with fail
            go_roundw
            case rel => exact ⟨k + 1, by omega, by go_num, E7.drewN _, k7, r7, by rw [← HP.out]; exact HFI.out HN.out HE.out⟩
            case measure => simp [intOf] <;> omega
          case inr =>
            obtain ⟨d0, -⟩ := HC.out j (by omega)
            replace d0 := (HCW.out _).trans d0
            have hb1 := HBE.out j hsome HE.out
            have hs1 := HST.out j hsome hj HE.out
            have hy : Pl.Beats (Pl.worth seed f) (bs.getD j Pl.back0) ⟨xi, xa, xd, xw, true, false⟩ = (Pl.worth seed f (bs.getD j Pl.back0) < Pl.worth seed f ⟨xi, xa, xd, xw, true, false⟩ ∨ (Pl.worth seed f (bs.getD j Pl.back0) = Pl.worth seed f ⟨xi, xa, xd, xw, true, false⟩ ∧ xi < (bs.getD j Pl.back0).id)) := rfl
            rw [hy] at hb1 hs1
            rw [HP.out] at hb1 hs1
            clear hy hsome
            generalize (bs.getD j Pl.back0).id = yi at *
            generalize Pl.worth seed f (bs.getD j Pl.back0) = m at *
            have HB1 := Lib.hid hb1
            have HS1 := Lib.hid hs1
            clear hb1 hs1
            have hj0 : (0 : Int) ≤ (j : Int) := by omega
            have hjn : (j : Int) < (n : Int) := by omega
            have hjn' : ¬ (j : Int) < 0 := by omega
            have hdj : decide ((j : Int) < 0) = false := by simp
            by_cases hmP : m < z * xw
            · have hd1 : decide (m < z * xw) = true := by simpa using hmP
              go_wp2_with fail
              go_quiet (fail)
              go_wp2_with fail
              go_roundw
              case rel => exact ⟨k + 1, by omega, by go_num, E7.drewN _, k7, r7, HB1.out (.inl hmP)⟩
              case measure => simp [intOf] <;> omega
            · have hd1 : decide (m < z * xw) = false := by simpa using hmP
              by_cases heq : z * xw = m
              · have he1 : (z * xw == m) = true := by simpa using heq
                have HQ := Lib.hid heq
                clear heq
                by_cases hid : xi < yi
                · have hd2 : decide (xi < yi) = true := by simpa using hid
                  go_wp2_with fail
                  go_quiet (fail)
                  go_wp2_with fail
                  go_roundw
                  case rel => exact ⟨k + 1, by omega, by go_num, E7.drewN _, k7, r7, HB1.out (.inr ⟨HQ.out.symm, hid⟩)⟩
                  case measure => simp [intOf] <;> omega
                · have hd2 : decide (xi < yi) = false := by simpa using hid
                  go_wp2_with fail
                  go_quiet (fail)
                  go_wp2_with fail
                  go_roundw
                  case rel => exact ⟨k + 1, by omega, by go_num, E7.drewN _, k7, r7, HS1.out (fun h => by rcases h with h | ⟨_, h⟩ <;> omega)⟩
                  case measure => simp [intOf] <;> omega
              · have he1 : (z * xw == m) = false := by simpa using heq
                have HQ := Lib.hid heq
                clear heq
                go_wp2_with fail
                go_quiet (fail)
                go_wp2_with fail
                go_roundw
                case rel => exact ⟨k + 1, by omega, by go_num, E7.drewN _, k7, r7, HS1.out (fun h => by
                  rcases h with h | ⟨h, _⟩
                  · omega
                  · exact HQ.out h.symm)⟩
                case measure => simp [intOf] <;> omega
end Go.Proofs.YtapmbjmcbllalaaDoor
