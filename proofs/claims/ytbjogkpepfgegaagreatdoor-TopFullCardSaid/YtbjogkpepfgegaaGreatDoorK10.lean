/- The contract of pick.Pick. Conditions: as each theorem states them. -/
import Derived.Test.YtbjogkpepfgegaaGreatDoorK03
import Derived.Test.YtbjogkpepfgegaaGreatDoorK02
namespace Go.Proofs.YtbjogkpepfgegaaGreatDoor
open Go.RowKit
namespace Pl
/-- May servers be? -/
def OkBacks (bs : List Back) : Prop := bs.length ≤ 8 ∧ ∀ j, j < bs.length → Fine bs j
/-- What counts for a server. -/
def worth (seed : Int) (f : Flow) (b : Back) : Int := score seed f b.id * b.weight
theorem score_bd {seed : Int} (f : Flow) (id : Int) (h : 0 ≤ seed ∧ seed < 2147483648) : 0 ≤ score seed f id ∧ score seed f id < 8388608 := by
  have := mix_bd (mix (mix (mix (mix seed [f.kind]) f.client.l) [f.port]) f.dst.l) [f.door, id] (mix_bd _ _ (mix_bd _ _ (mix_bd _ _ (mix_bd _ _ h))))
  unfold score
  omega
theorem Fine.apart {bs : List Back} {n : Nat} (h : ∀ j, j < n → Fine bs j) (i j : Nat) (hi : i < n) (hj : j < n) (hne : i ≠ j) : (bs.getD i back0).id ≠ (bs.getD j back0).id := by
  rcases Nat.lt_or_ge i j with hl | hl
  · exact (h j hj).2 i hl
  · exact fun e => (h i hi).2 j (by omega) e.symm
theorem OkBacks.num {bs : List Back} (h : OkBacks bs) {b : Back} (hb : b ∈ bs) : b.Num := by
  obtain ⟨i, hi, rfl⟩ := List.mem_iff_getElem.1 hb
  have := (h.2 i hi).1
  rwa [List.getD_eq_getElem?_getD, List.getElem?_eq_getElem hi, Option.getD_some] at this
theorem OkBacks.apart {bs : List Back} (h : OkBacks bs) : Apart bs := by
  unfold Apart
  rw [List.pairwise_iff_getElem]
  intro i j hi hj hij
  have := Fine.apart h.2 i j hi hj (by omega)
  rwa [List.getD_eq_getElem?_getD, List.getElem?_eq_getElem hi, Option.getD_some, List.getD_eq_getElem?_getD, List.getElem?_eq_getElem hj, Option.getD_some] at this
theorem OkBacks.of {bs : List Back} (hl : bs.length ≤ 8) (hn : ∀ b ∈ bs, b.Num) (ha : Apart bs) : OkBacks bs := by
  refine ⟨hl, fun j hj => ?_⟩
  have e : ∀ i (hi : i < bs.length), bs.getD i back0 = bs[i] := fun i hi => by rw [List.getD_eq_getElem?_getD, List.getElem?_eq_getElem hi, Option.getD_some]
  refine ⟨by rw [e j hj]; exact hn _ (List.getElem_mem hj), fun m hm => ?_⟩
  unfold Apart at ha
  rw [List.pairwise_iff_getElem] at ha
  rw [e j hj, e m (by omega)]
  exact ha m j (by omega) hj hm
end Pl

theorem pcheck_ok (a : Option Addr) (n c : Nat) (bs : List Pl.Back) (w : World) (hb : Backs w a n bs) (hnc : n ≤ c) (hok : Pl.OkBacks bs) :
    Calls Tryz.prog 49 #[.slice a n c] w fun e w' => e = .returned (.tuple #[.int .i64 0, .nilIface]) ∧ Ext w w' :=
  (pcheck_any a n c bs w hb (by rw [← hb.1]; exact hok.1) hnc).mono fun e w' ⟨⟨i, hi, hc⟩, hE⟩ => by
    refine ⟨?_, hE⟩
    rcases hc with ⟨_, he⟩ | ⟨h1, h2, _⟩ | ⟨h1, _, ⟨m, hm, he⟩, _⟩
    · exact he
    · exact absurd (hok.2 i h1).1 h2
    · exact absurd he ((hok.2 i h1).2 m hm)
/-- Some error's number. -/
def SomeErr (P : Value → Value) (e : Ending) : Prop := ∃ q : Int, e = .returned (P (errv q))
theorem pcheck_bad (a : Option Addr) (n c : Nat) (bs : List Pl.Back) (w : World) (hb : Backs w a n bs) (hnc : n ≤ c) (hok : ¬ Pl.OkBacks bs) :
    Calls Tryz.prog 49 #[.slice a n c] w fun e w' => (∃ i q : Int, e = .returned (.tuple #[.int .i64 i, errv q])) ∧ Ext w w' := by
  by_cases h8 : n ≤ 8
  · refine (pcheck_any a n c bs w hb h8 hnc).mono fun e w' ⟨⟨i, hi, hc⟩, hE⟩ => ⟨?_, hE⟩
    rcases hc with ⟨h0, _⟩ | ⟨_, _, he⟩ | ⟨_, _, _, he⟩
    · exact absurd ⟨by rw [hb.1]; exact h8, fun j hj => hi j (by rw [h0]; exact hj)⟩ hok
    · exact ⟨_, _, he⟩
    · exact ⟨_, _, he⟩
  · exact (pcheck_full a n c w (by omega)).mono fun e w' ⟨he, hE⟩ => ⟨⟨_, _, he⟩, hE⟩

/-- What Pick gives of servers and a flow that may be. -/
def PickRes (seed : Int) (f : Flow) (bs : List Pl.Back) (e : Ending) : Prop :=
  (Pl.best (Pl.worth seed f) bs = none ∧ e = .returned (.tuple #[backv Pl.back0, errv 4])) ∨ ∃ x, Pl.best (Pl.worth seed f) bs = some x ∧ e = .returned (.tuple #[backv x, .nilIface])

/-- What the loop of Pick has found in the first k servers. -/
def Cur (seed : Int) (f : Flow) (bs : List Pl.Back) (k : Nat) (b m : Value) : Prop :=
  (b = .int .i64 (-1) ∧ m = .int .i64 (-1) ∧ Pl.best (Pl.worth seed f) (bs.take k) = none) ∨
  ∃ j : Nat, j < k ∧ b = .int .i64 j ∧ m = .int .i64 (Pl.worth seed f (bs.getD j Pl.back0)) ∧ Pl.best (Pl.worth seed f) (bs.take k) = some (bs.getD j Pl.back0)
theorem best_next (seed : Int) (f : Flow) {bs : List Pl.Back} {k : Nat} (hk : k < bs.length) :
    Pl.best (Pl.worth seed f) (bs.take (k + 1)) = Pl.step (Pl.worth seed f) (Pl.best (Pl.worth seed f) (bs.take k)) (bs.getD k Pl.back0) := by
  rw [List.take_succ_eq_append_getElem hk, Pl.best_snoc]
  simp [List.getD, hk]
theorem Cur.skip {seed : Int} {f : Flow} {bs : List Pl.Back} {k : Nat} {b m : Value} (h : Cur seed f bs k b m) (hk : k < bs.length) (he : ¬ Pl.Elig (bs.getD k Pl.back0)) : Cur seed f bs (k + 1) b m := by
  have e := best_next seed f hk
  unfold Pl.step at e
  rw [if_neg he] at e
  rcases h with ⟨h1, h2, h3⟩ | ⟨j, hj, h1, h2, h3⟩
  · exact .inl ⟨h1, h2, e.trans h3⟩
  · exact .inr ⟨j, by omega, h1, h2, e.trans h3⟩
theorem Cur.first {seed : Int} {f : Flow} {bs : List Pl.Back} {k : Nat} (h : Pl.best (Pl.worth seed f) (bs.take k) = none) (hk : k < bs.length) (he : Pl.Elig (bs.getD k Pl.back0)) :
    Cur seed f bs (k + 1) (.int .i64 k) (.int .i64 (Pl.worth seed f (bs.getD k Pl.back0))) := by
  have e := best_next seed f hk
  unfold Pl.step at e
  rw [if_pos he, h] at e
  exact .inr ⟨k, by omega, rfl, rfl, e⟩
theorem Cur.better {seed : Int} {f : Flow} {bs : List Pl.Back} {k j : Nat} (h : Pl.best (Pl.worth seed f) (bs.take k) = some (bs.getD j Pl.back0)) (hk : k < bs.length) (he : Pl.Elig (bs.getD k Pl.back0)) (hb : Pl.Beats (Pl.worth seed f) (bs.getD j Pl.back0) (bs.getD k Pl.back0)) :
    Cur seed f bs (k + 1) (.int .i64 k) (.int .i64 (Pl.worth seed f (bs.getD k Pl.back0))) := by
  have e := best_next seed f hk
  unfold Pl.step at e
  rw [if_pos he, h] at e
  simp only [if_pos hb] at e
  exact .inr ⟨k, by omega, rfl, rfl, e⟩
theorem Cur.stay {seed : Int} {f : Flow} {bs : List Pl.Back} {k j : Nat} (h : Pl.best (Pl.worth seed f) (bs.take k) = some (bs.getD j Pl.back0)) (hj : j < k) (hk : k < bs.length) (he : Pl.Elig (bs.getD k Pl.back0)) (hb : ¬ Pl.Beats (Pl.worth seed f) (bs.getD j Pl.back0) (bs.getD k Pl.back0)) :
    Cur seed f bs (k + 1) (.int .i64 j) (.int .i64 (Pl.worth seed f (bs.getD j Pl.back0))) := by
  have e := best_next seed f hk
  unfold Pl.step at e
  rw [if_pos he, h] at e
  simp only [if_neg hb] at e
  exact .inr ⟨j, by omega, rfl, rfl, e⟩

set_option maxRecDepth 100000 in
set_option maxHeartbeats 8000000 in
theorem pick_ok (seed : Int) (f : Flow) (a : Option Addr) (n c : Nat) (bs : List Pl.Back) (w : World) (hb : Backs w a n bs) (hnc : n ≤ c) (hok : Pl.OkBacks bs) (hs : 0 ≤ seed ∧ seed < 2147483648) (hf : f.Ok) :
    Calls Tryz.prog 64 #[.int .i64 seed, f.v, .slice a n c] w fun e w' => PickRes seed f bs e ∧ Ext w w' := by
  have HB := Lib.hid hb
  have HL := Lib.hid hb.1
  have HO := Lib.hid hok
  have HS := Lib.hid hs
  have HF := Lib.hid hf
  have hn8 : n ≤ 8 := by rw [← hb.1]; exact hok.1
  obtain ⟨s0, s1⟩ := hs
  clear hb hok hf
  have K0 := Blk.new w 50 f.cells
  have E0 : Ext w (w.alloc (.cells f.cells 50)) := (Ext.refl w).alloc _
  go_enter Tryz.func64, Tryz.ntmps64
  go_wp2_with fail
  refine at_world (fun W => Ext w W ∧ Blk W w.heap.size 50 f.cells ∧ Blk W (w.heap.size + 1) 34 #[.int .i64 Pl.back0.id, .int .i64 Pl.back0.addr, .int .i64 Pl.back0.door, .int .i64 Pl.back0.weight, .bool Pl.back0.up, .bool Pl.back0.drain]) ⟨E0.alloc _, K0.alloc _, Blk.at _ _ _ (by simp)⟩ ?_
  rintro W1 ⟨E1, k1, r1⟩
  refine (pcheck_ok a n c bs W1 (HB.out.ext E1) hnc HO.out).mono ?_
  rintro e W2 ⟨rfl, q2⟩
  have k2 := k1.ext q2
  have r2 := r1.ext q2
  have E2 := E1.trans q2
  have l2 := k2.flow
  go_wp2_with ((apply load_by rfl _ _ rfl _ rfl); (focus (with_reducible assumption)))
  refine (score_ok seed f 0 W2 HS.out ⟨by omega, by omega⟩ HF.out).mono ?_
  rintro e W3 ⟨rfl, q3⟩
  have k3 := k2.ext q3
  have r3 := r2.ext q3
  have E3 := E2.trans q3
  clear l2
  go_wp2_with fail
  go_loopw [12, 13, 39] (fun b m i wr => ∃ k : Nat, k ≤ n ∧ i = .int .i64 k ∧ Ext w wr ∧ Blk wr w.heap.size 50 f.cells ∧ Blk wr (w.heap.size + 1) 34 #[.int .i64 Pl.back0.id, .int .i64 Pl.back0.addr, .int .i64 Pl.back0.door, .int .i64 Pl.back0.weight, .bool Pl.back0.up, .bool Pl.back0.drain] ∧ Cur seed f bs k b m) (fun _ _ i _ => n - (intOf i).toNat)
  case atStart => exact ⟨0, Nat.zero_le _, rfl, E3, k3, r3, .inl ⟨rfl, rfl, rfl⟩⟩
  case round =>
    obtain ⟨k, hk, rfl, E4, k4, r4, hcur⟩ := hrel
    clear E0 E1 E2 E3 K0 k1 k2 k3 r1 r2 r3 q2 q3
    by_cases hlt : k < n
    case neg =>
      obtain rfl : n = k := by omega
      have hall : bs.take n = bs := List.take_of_length_le (by rw [HL.out]; omega)
      unfold Cur at hcur
      rw [hall] at hcur
      rcases hcur with ⟨rfl, rfl, hn⟩ | ⟨j, hj, rfl, rfl, hsome⟩
      · have HN := Lib.hid hn
        have rc := r4.cells
        have rf := r4.free
        clear hn hall
        go_wp2
        have r5 : Blk _ (w.heap.size + 1) 34 #[.int .i64 Pl.back0.id, .int .i64 Pl.back0.addr, .int .i64 Pl.back0.door, .int .i64 Pl.back0.weight, .bool Pl.back0.up, .bool Pl.back0.drain] := (((((r4.put 0 (.int .i64 0)).put 1 (.int .i64 0)).put 2 (.int .i64 0)).put 3 (.int .i64 0)).put 4 (.bool false)).put 5 (.bool false)
        have rc5 := r5.cells
        refine bodyPost_ret (v := .tuple #[backv Pl.back0, errv 4]) (by simp [results, Tryz.results64, go_sem, rc5, errv]) rfl ⟨.inl ⟨HN.out, rfl⟩, ?_⟩
        exact (((((E4.set (p := ⟨w.heap.size + 1, 0, none⟩) (by show _ ≤ w.heap.size + 1; omega) _).set (p := ⟨w.heap.size + 1, 1, none⟩) (by show _ ≤ w.heap.size + 1; omega) _).set (p := ⟨w.heap.size + 1, 2, none⟩) (by show _ ≤ w.heap.size + 1; omega) _).set (p := ⟨w.heap.size + 1, 3, none⟩) (by show _ ≤ w.heap.size + 1; omega) _).set (p := ⟨w.heap.size + 1, 4, none⟩) (by show _ ≤ w.heap.size + 1; omega) _).set (p := ⟨w.heap.size + 1, 5, none⟩) (by show _ ≤ w.heap.size + 1; omega) _
      · obtain ⟨b, off, rfl, hbl, hc⟩ := HB.out.at E4 (by omega)
        obtain ⟨c0, c1, c2, c3, c4, c5⟩ := hc j hj
        generalize bs.getD j Pl.back0 = x at *
        have HN := Lib.hid hsome
        have rc := r4.cells
        have rf := r4.free
        have hj0 : (0 : Int) ≤ (j : Int) := by omega
        have hjn : (j : Int) < (n : Int) := by omega
        clear hsome hall hc
        go_wp2
        have r5 : Blk _ (w.heap.size + 1) 34 #[.int .i64 x.id, .int .i64 x.addr, .int .i64 x.door, .int .i64 x.weight, .bool x.up, .bool x.drain] := (((((r4.put 0 (.int .i64 x.id)).put 1 (.int .i64 x.addr)).put 2 (.int .i64 x.door)).put 3 (.int .i64 x.weight)).put 4 (.bool x.up)).put 5 (.bool x.drain)
        have rc5 := r5.cells
        refine bodyPost_ret (v := .tuple #[backv x, .nilIface]) (by simp [results, Tryz.results64, go_sem, rc5]) rfl ⟨.inr ⟨x, HN.out, rfl⟩, ?_⟩
        exact (((((E4.set (p := ⟨w.heap.size + 1, 0, none⟩) (by show _ ≤ w.heap.size + 1; omega) _).set (p := ⟨w.heap.size + 1, 1, none⟩) (by show _ ≤ w.heap.size + 1; omega) _).set (p := ⟨w.heap.size + 1, 2, none⟩) (by show _ ≤ w.heap.size + 1; omega) _).set (p := ⟨w.heap.size + 1, 3, none⟩) (by show _ ≤ w.heap.size + 1; omega) _).set (p := ⟨w.heap.size + 1, 4, none⟩) (by show _ ≤ w.heap.size + 1; omega) _).set (p := ⟨w.heap.size + 1, 5, none⟩) (by show _ ≤ w.heap.size + 1; omega) _
    case pos =>
      obtain ⟨b, off, rfl, hbl, hc⟩ := HB.out.at E4 (by omega)
      obtain ⟨c0, c1, c2, c3, c4, c5⟩ := hc k hlt
      have hkl : k < bs.length := by rw [HL.out]; exact hlt
      have hnum := (HO.out.2 k hkl).1
      have hskip := fun he => Cur.skip hcur hkl he
      have hfirst := fun h he => Cur.first (seed := seed) (f := f) h hkl he
      have hbetter := fun j h he hb => Cur.better (seed := seed) (f := f) (j := j) h hkl he hb
      have hstay := fun j h hj he hb => Cur.stay (seed := seed) (f := f) (j := j) h hj hkl he hb
      have hworth : Pl.worth seed f (bs.getD k Pl.back0) = Pl.score seed f (bs.getD k Pl.back0).id * (bs.getD k Pl.back0).weight := rfl
      generalize bs.getD k Pl.back0 = x at *
      obtain ⟨xi, xa, xd, xw, xu, xr⟩ := x
      dsimp only at c0 c1 c2 c3 c4 c5 hnum hworth
      have E5 := fun bu br => E4.alloc (.cells #[.int .i64 xi, .int .i64 xa, .int .i64 xd, .int .i64 xw, .bool bu, .bool br] 34)
      have k5 := fun bu br => k4.alloc (.cells #[.int .i64 xi, .int .i64 xa, .int .i64 xd, .int .i64 xw, .bool bu, .bool br] 34)
      have r5 := fun bu br => r4.alloc (.cells #[.int .i64 xi, .int .i64 xa, .int .i64 xd, .int .i64 xw, .bool bu, .bool br] 34)
      have HC := Lib.hid hc
      have HW := Lib.hid hworth
      have HSK := Lib.hid hskip
      have HFI := Lib.hid hfirst
      have HBE := Lib.hid hbetter
      have HST := Lib.hid hstay
      have HE5 := Lib.hid E5
      have HK5 := Lib.hid k5
      have HR5 := Lib.hid r5
      have l4 := k4.lt
      clear hc hworth hskip hfirst hbetter hstay E5 k5 r5
      by_cases hel : Pl.Elig ⟨xi, xa, xd, xw, xu, xr⟩
      case neg =>
        have HE := Lib.hid hel
        cases xu with
        | false =>
          clear hel
          go_wp2
          go_roundw
          case rel => exact ⟨k + 1, by omega, by go_num, HE5.out _ _, HK5.out _ _, HR5.out _ _, HSK.out HE.out⟩
          case measure => simp [intOf]; omega
        | true =>
          cases xr with
          | true =>
            clear hel
            go_wp2
            go_roundw
            case rel => exact ⟨k + 1, by omega, by go_num, HE5.out _ _, HK5.out _ _, HR5.out _ _, HSK.out HE.out⟩
            case measure => simp [intOf]; omega
          | false =>
            have hw' : (xw == 0) = true := by
              by_cases hw : xw = 0
              · simpa using hw
              · exact absurd ⟨rfl, rfl, hw⟩ hel
            clear hel
            go_wp2
            go_roundw
            case rel => exact ⟨k + 1, by omega, by go_num, HE5.out _ _, HK5.out _ _, HR5.out _ _, HSK.out HE.out⟩
            case measure => simp [intOf]; omega
      case pos =>
        have HE := Lib.hid hel
        obtain ⟨hu, hd, hw⟩ := hel
        obtain rfl : xu = true := hu
        obtain rfl : xr = false := hd
        have hw' : (xw == 0) = false := by simpa using hw
        have l5 := (HK5.out true false).flow
        have K5 := (Blk.new wr 34 #[.int .i64 xi, .int .i64 xa, .int .i64 xd, .int .i64 xw, .bool true, .bool false])
        clear hw
        go_wp2_with ((apply load_by rfl _ _ rfl _ rfl); (focus (with_reducible assumption)))
        refine at_world (fun W => Ext w W ∧ Blk W w.heap.size 50 f.cells ∧ Blk W (w.heap.size + 1) 34 #[.int .i64 Pl.back0.id, .int .i64 Pl.back0.addr, .int .i64 Pl.back0.door, .int .i64 Pl.back0.weight, .bool Pl.back0.up, .bool Pl.back0.drain] ∧ Blk W wr.heap.size 34 #[.int .i64 xi, .int .i64 xa, .int .i64 xd, .int .i64 xw, .bool true, .bool false] ∧ Ext wr W) ⟨HE5.out _ _, HK5.out _ _, HR5.out _ _, K5, (Ext.refl wr).alloc _⟩ ?_
        rintro W6 ⟨E6, k6, r6, K6, F6⟩
        refine (score_ok seed f xi W6 HS.out hnum.1 HF.out).mono ?_
        rintro e W7 ⟨rfl, q7⟩
        have E7 := E6.trans q7
        have k7 := k6.ext q7
        have r7 := r6.ext q7
        have K7 := K6.ext q7
        have F7 := F6.trans q7
        have C7 := K7.cells
        have hsb := Pl.score_bd f xi HS.out
        have hP : 0 ≤ Pl.score seed f xi * xw ∧ Pl.score seed f xi * xw ≤ 83886080 := by
          obtain ⟨_, _, _, w0, w1⟩ := hnum
          have w0 : 0 ≤ xw := w0
          have w1 : xw ≤ 10 := w1
          refine ⟨Int.mul_nonneg hsb.1 w0, ?_⟩
          have h1 := Int.mul_le_mul_of_nonneg_right (show Pl.score seed f xi ≤ 8388608 by omega) w0
          have h2 : 8388608 * xw ≤ 83886080 := by omega
          omega
        generalize Pl.score seed f xi = z at *
        have HP := Lib.hid HW.out
        obtain ⟨p0, p1⟩ := hP
        have ewP : IntKind.i64.wrap (z * xw) = z * xw := IntWalk.i64_in _ (by omega)
        clear l5 c0 c1 c2 c3 c4 c5 hnum hsb
        rcases hcur with ⟨rfl, rfl, hn⟩ | ⟨j, hj, rfl, rfl, hsome⟩
        case inl =>
          have HN := Lib.hid hn
          clear hn
          have hlt1 : (-1 : Int) < z * xw := by omega
          have hd1 : decide ((-1 : Int) < z * xw) = true := by simpa using hlt1
          go_wp2_with fail
          go_quiet (fail)
          go_wp2
          go_roundw
          case rel => exact ⟨k + 1, by omega, by go_num, E7.drewN _, k7, r7, by rw [← HP.out]; exact HFI.out HN.out HE.out⟩
          case measure => simp [intOf]; omega
        case inr =>
          obtain ⟨d0, d1, d2, d3, d4, d5⟩ := HC.out j (by omega)
          have hbw : b < wr.heap.size := by have := E4.size; omega
          have d0' : W7.cell? ⟨b, off + j * 6, none⟩ = some (.int .i64 (bs.getD j Pl.back0).id) := (Below.cell F7 (p := ⟨b, off + j * 6, none⟩) hbw).trans d0
          clear d0 d1 d2 d3 d4 d5
          have hb1 := HBE.out j hsome HE.out
          have hs1 := HST.out j hsome hj HE.out
          have hy : Pl.Beats (Pl.worth seed f) (bs.getD j Pl.back0) ⟨xi, xa, xd, xw, true, false⟩ = (Pl.worth seed f (bs.getD j Pl.back0) < Pl.worth seed f ⟨xi, xa, xd, xw, true, false⟩ ∨ (Pl.worth seed f (bs.getD j Pl.back0) = Pl.worth seed f ⟨xi, xa, xd, xw, true, false⟩ ∧ xi < (bs.getD j Pl.back0).id)) := rfl
          rw [hy] at hb1 hs1
          rw [HP.out] at hb1 hs1
          clear hy hsome
          generalize (bs.getD j Pl.back0).id = yi at *
          generalize Pl.worth seed f (bs.getD j Pl.back0) = m at *
          have HB1 := Lib.hid hb1
          have HS1 := Lib.hid hs1
          clear hb1 hs1
          have hj0 : (0 : Int) ≤ (j : Int) := by omega
          have hjn : (j : Int) < (n : Int) := by omega
          by_cases hmP : m < z * xw
          · have hd1 : decide (m < z * xw) = true := by simpa using hmP
            go_wp2_with fail
            go_quiet (fail)
            go_wp2
            go_roundw
            case rel => exact ⟨k + 1, by omega, by go_num, E7.drewN _, k7, r7, HB1.out (.inl hmP)⟩
            case measure => simp [intOf]; omega
          · have hd1 : decide (m < z * xw) = false := by simpa using hmP
            by_cases heq : z * xw = m
            · have he1 : (z * xw == m) = true := by simpa using heq
              have HQ := Lib.hid heq
              clear heq
              by_cases hid : xi < yi
              · have hd2 : decide (xi < yi) = true := by simpa using hid
                go_wp2_with fail
                go_quiet (fail)
                go_wp2
                go_roundw
                case rel => exact ⟨k + 1, by omega, by go_num, E7.drewN _, k7, r7, HB1.out (.inr ⟨HQ.out.symm, hid⟩)⟩
                case measure => simp [intOf]; omega
              · have hd2 : decide (xi < yi) = false := by simpa using hid
                go_wp2_with fail
                go_quiet (fail)
                go_wp2
                go_roundw
                case rel => exact ⟨k + 1, by omega, by go_num, E7.drewN _, k7, r7, HS1.out (fun h => by rcases h with h | ⟨_, h⟩ <;> omega)⟩
                case measure => simp [intOf]; omega
            · have he1 : (z * xw == m) = false := by simpa using heq
              have HQ := Lib.hid heq
              clear heq
              go_wp2_with fail
              go_quiet (fail)
              go_wp2
              go_roundw
              case rel => exact ⟨k + 1, by omega, by go_num, E7.drewN _, k7, r7, HS1.out (fun h => by
                rcases h with h | ⟨h, _⟩
                · omega
                · exact HQ.out h.symm)⟩
              case measure => simp [intOf]; omega
end Go.Proofs.YtbjogkpepfgegaaGreatDoor
