/- cross.To6, of any packet. Conditions: as each theorem states them. -/
import Derived.Test.YtbjogkpepfgegaaDoorK42
import Derived.Test.YtbjogkpepfgegaaDoorK17
namespace Go.Proofs.YtbjogkpepfgegaaDoor
open Go.RowKit
/-- What is wrong with a packet of fours that is to cross. -/
def x6Q (s d t k i : Int) (n : Nat) (xs : List Int) (src dst : Six) : Int :=
  if fault4 s d t k i n ≠ 0 then fault4 s d t k i n else if ¬ (okS src = true ∧ okS dst = true) then 1
  else if Pl.opQ k xs (val4 s d k n) ≠ 0 then Pl.opQ k xs (val4 s d k n) else if t < 2 then 7 else 0
def x6B (k : Int) (xs : List Int) (src dst : Six) (Q : Int) : List Int := if Q = 0 then body6 (Pl.decSeg k xs) src dst (xs.drop (Pl.segSize k)) else []
def x6p (t k : Int) (src dst : Six) (Q : Int) : P6 := if Q = 0 then ⟨src, dst, t - 1, k⟩ else ⟨⟨0, 0, 0, 0, 0, 0, 0, 0⟩, ⟨0, 0, 0, 0, 0, 0, 0, 0⟩, 0, 0⟩
def X6Got (t k : Int) (xs : List Int) (src dst : Six) (Q : Int) (err : Value) (w : World) (e : Ending) (w' : World) : Prop :=
  ∃ a n c, e = .returned (.tuple #[.agg ((x6p t k src dst Q).cells (.slice a n c)), err]) ∧ Own w' w.heap.size (.slice a n c) (x6B k xs src dst Q) ∧ Ext w w'
theorem x6_bad {t k : Int} {xs : List Int} {src dst : Six} {Q : Int} {err v : Value} {w w' : World} (hq : Q ≠ 0) (hv : v = err) (he : Ext w w') : X6Got t k xs src dst Q err w (.returned (.tuple #[.agg #[.int .i64 0, .int .i64 0, .int .i64 0, .int .i64 0, .int .i64 0, .int .i64 0, .int .i64 0, .int .i64 0, .int .i64 0, .int .i64 0, .int .i64 0, .int .i64 0, .int .i64 0, .int .i64 0, .int .i64 0, .int .i64 0, .int .i64 0, .int .i64 0, .slice none 0 0], v])) w' := by
  subst hv
  refine ⟨none, 0, 0, ?_, ?_, he⟩
  · unfold x6p
    rw [if_neg hq]
    rfl
  · unfold x6B
    rw [if_neg hq]
    exact Own.nil _ _
set_option maxRecDepth 100000 in
set_option maxHeartbeats 4000000 in
theorem to6_any (s d t k i : Int) (a : Option Addr) (n c : Nat) (xs : List Int) (src dst : Six) (w : World) (hr : Ints .u8 w a n xs) (hb : Pl.IsB xs) (hnc : n ≤ c) (hc : a = none → c = 0) :
    Calls Tryd.prog 16 #[.agg (c4 s d t k i (.slice a n c)), src.v, dst.v] w (X6Got t k xs src dst (x6Q s d t k i n xs src dst) (erv (x6Q s d t k i n xs src dst)) w) := by
  have KP := (((Blk.new w 42 (c4 s d t k i (.slice a n c))).alloc (.cells src.cells 23)).alloc (.cells dst.cells 23)).alloc (.cells #[.int .i64 0, .int .i64 0, .int .i64 0, .int .i64 0, .int .i64 0, .int .i64 0, .int .i64 0, .int .i64 0, .int .i64 0, .int .i64 0, .int .i64 0, .int .i64 0, .int .i64 0, .int .i64 0, .int .i64 0, .int .i64 0, .int .i64 0, .int .i64 0, .slice none 0 0] 47)
  have KA := ((Blk.at (n := w.heap.size + 1) (w.alloc (.cells (c4 s d t k i (.slice a n c)) 42)) 23 src.cells (by simp)).alloc (.cells dst.cells 23)).alloc (.cells #[.int .i64 0, .int .i64 0, .int .i64 0, .int .i64 0, .int .i64 0, .int .i64 0, .int .i64 0, .int .i64 0, .int .i64 0, .int .i64 0, .int .i64 0, .int .i64 0, .int .i64 0, .int .i64 0, .int .i64 0, .int .i64 0, .int .i64 0, .int .i64 0, .slice none 0 0] 47)
  have KB := (Blk.at (n := w.heap.size + 2) ((w.alloc (.cells (c4 s d t k i (.slice a n c)) 42)).alloc (.cells src.cells 23)) 23 dst.cells (by simp)).alloc (.cells #[.int .i64 0, .int .i64 0, .int .i64 0, .int .i64 0, .int .i64 0, .int .i64 0, .int .i64 0, .int .i64 0, .int .i64 0, .int .i64 0, .int .i64 0, .int .i64 0, .int .i64 0, .int .i64 0, .int .i64 0, .int .i64 0, .int .i64 0, .int .i64 0, .slice none 0 0] 47)
  have KR := Blk.at (n := w.heap.size + 3) (((w.alloc (.cells (c4 s d t k i (.slice a n c)) 42)).alloc (.cells src.cells 23)).alloc (.cells dst.cells 23)) 47 #[.int .i64 0, .int .i64 0, .int .i64 0, .int .i64 0, .int .i64 0, .int .i64 0, .int .i64 0, .int .i64 0, .int .i64 0, .int .i64 0, .int .i64 0, .int .i64 0, .int .i64 0, .int .i64 0, .int .i64 0, .int .i64 0, .int .i64 0, .int .i64 0, .slice none 0 0] (by simp)
  have E0 : Ext w _ := ((((Ext.refl w).alloc (.cells (c4 s d t k i (.slice a n c)) 42)).alloc (.cells src.cells 23)).alloc (.cells dst.cells 23)).alloc (.cells #[.int .i64 0, .int .i64 0, .int .i64 0, .int .i64 0, .int .i64 0, .int .i64 0, .int .i64 0, .int .i64 0, .int .i64 0, .int .i64 0, .int .i64 0, .int .i64 0, .int .i64 0, .int .i64 0, .int .i64 0, .int .i64 0, .int .i64 0, .int .i64 0, .slice none 0 0] 47)
  have HR := Lib.hid hr
  have HB := Lib.hid hb
  have HC := Lib.hid hc
  obtain ⟨Q, hQ⟩ : ∃ Q, x6Q s d t k i n xs src dst = Q := ⟨_, rfl⟩
  rw [hQ]
  have HQ := Lib.hid hQ
  obtain ⟨F, hF⟩ : ∃ F, fault4 s d t k i n = F := ⟨_, rfl⟩
  have HF := Lib.hid hF
  have HCK := Lib.hid (fun W => (show Calls Tryd.prog 48 #[.agg (c4 s d t k i (.slice a n c))] W (fun e w' => e = .returned (erv F) ∧ Ext W w') from hF ▸ check4p_any s d t k i a n c W))
  clear hr hb hQ hF hc
  unfold Six.v
  go_enter Tryd.func16, Tryd.ntmps16
  go_upto_region 1 with (fail)
  refine at_worldE (fun W => Ext w W ∧ Blk W w.heap.size 42 (c4 s d t k i (.slice a n c)) ∧ Blk W (w.heap.size + 1) 23 src.cells ∧ Blk W (w.heap.size + 2) 23 dst.cells ∧ Blk W (w.heap.size + 3) 47 #[.int .i64 0, .int .i64 0, .int .i64 0, .int .i64 0, .int .i64 0, .int .i64 0, .int .i64 0, .int .i64 0, .int .i64 0, .int .i64 0, .int .i64 0, .int .i64 0, .int .i64 0, .int .i64 0, .int .i64 0, .int .i64 0, .int .i64 0, .int .i64 0, .slice none 0 0]) ⟨E0, KP, KA, KB, KR⟩ ?_
  clear E0 KP KA KB KR
  rintro W1 ⟨E1, KP, KA, KB, KR⟩
  have ld := KP.p4
  go_wp2_with ((apply load_by rfl _ _ rfl _ rfl); (focus (with_reducible assumption)))
  refine (HCK.out W1).mono ?_
  rintro e W2 ⟨rfl, q2⟩
  replace E1 := E1.trans q2
  replace KP := KP.ext q2
  replace KA := KA.ext q2
  replace KB := KB.ext q2
  replace KR := KR.ext q2
  clear ld q2
  by_cases hf : F = 0
  case neg =>
    have hq : Q = F := by have := HQ.out; unfold x6Q at this; rw [HF.out, if_pos hf] at this; exact this.symm
    subst hq
    rw [erv_ne hf]
    have st0 := sto60 KR
    have KF := KR.row #[.int .i64 0, .int .i64 0, .int .i64 0, .int .i64 0, .int .i64 0, .int .i64 0, .int .i64 0, .int .i64 0, .int .i64 0, .int .i64 0, .int .i64 0, .int .i64 0, .int .i64 0, .int .i64 0, .int .i64 0, .int .i64 0, .int .i64 0, .int .i64 0, .slice none 0 0]
    have HE := Lib.hid (E1.row (k := w.heap.size + 3) (by omega) #[.int .i64 0, .int .i64 0, .int .i64 0, .int .i64 0, .int .i64 0, .int .i64 0, .int .i64 0, .int .i64 0, .int .i64 0, .int .i64 0, .int .i64 0, .int .i64 0, .int .i64 0, .int .i64 0, .int .i64 0, .int .i64 0, .int .i64 0, .int .i64 0, .slice none 0 0])
    have HN := Lib.hid hf
    unfold errv
    clear hf E1 KP KA KB KR
    go_wp2_with ((apply store_by rfl _ _ _ rfl _ rfl); (focus (with_reducible assumption)); (focus rfl))
    refine bodyPost_ret (results_cell2 Tryd.results16 _ _ (w.heap.size + 3) 47 #[.int .i64 0, .int .i64 0, .int .i64 0, .int .i64 0, .int .i64 0, .int .i64 0, .int .i64 0, .int .i64 0, .int .i64 0, .int .i64 0, .int .i64 0, .int .i64 0, .int .i64 0, .int .i64 0, .int .i64 0, .int .i64 0, .int .i64 0, .int .i64 0, .slice none 0 0] _ rfl KF Tryd.underlying47 rfl Tryd.sizeP6) rfl (x6_bad HN.out (erv_ne HN.out).symm HE.out)
  subst hf
  rw [erv_zero]
  have HOK := Lib.hid (fault4_zero HF.out)
  have hn := HOK.out.2
  have HQ2 := Lib.hid (show (if ¬ (okS src = true ∧ okS dst = true) then 1 else if Pl.opQ k xs (val4 s d k n) ≠ 0 then Pl.opQ k xs (val4 s d k n) else if t < 2 then 7 else 0) = Q by
    have := HQ.out
    unfold x6Q at this
    rw [HF.out, if_neg (by simp)] at this
    exact this)
  have ls := KA.six0
  clear HQ
  cases hs : okS src
  case false =>
    have hq : Q = 1 := by have := HQ2.out; rw [if_pos (by simp [hs])] at this; exact this.symm
    subst hq
    have HS := Lib.hid hs
    clear hs
    go_wp2_with ((apply load_by rfl _ _ rfl _ rfl); (focus (with_reducible assumption)))
    refine (check6_no src W2 HS.out).mono ?_
    rintro e W3 ⟨rfl, q3⟩
    replace E1 := E1.trans q3
    replace KR := KR.ext q3
    have st0 := sto60 KR
    have KF := KR.row #[.int .i64 0, .int .i64 0, .int .i64 0, .int .i64 0, .int .i64 0, .int .i64 0, .int .i64 0, .int .i64 0, .int .i64 0, .int .i64 0, .int .i64 0, .int .i64 0, .int .i64 0, .int .i64 0, .int .i64 0, .int .i64 0, .int .i64 0, .int .i64 0, .slice none 0 0]
    have HE := Lib.hid (E1.row (k := w.heap.size + 3) (by omega) #[.int .i64 0, .int .i64 0, .int .i64 0, .int .i64 0, .int .i64 0, .int .i64 0, .int .i64 0, .int .i64 0, .int .i64 0, .int .i64 0, .int .i64 0, .int .i64 0, .int .i64 0, .int .i64 0, .int .i64 0, .int .i64 0, .int .i64 0, .int .i64 0, .slice none 0 0])
    unfold errv
    clear ls E1 KP KA KB KR q3
    go_wp2_with ((apply store_by rfl _ _ _ rfl _ rfl); (focus (with_reducible assumption)); (focus rfl))
    refine bodyPost_ret (results_cell2 Tryd.results16 _ _ (w.heap.size + 3) 47 #[.int .i64 0, .int .i64 0, .int .i64 0, .int .i64 0, .int .i64 0, .int .i64 0, .int .i64 0, .int .i64 0, .int .i64 0, .int .i64 0, .int .i64 0, .int .i64 0, .int .i64 0, .int .i64 0, .int .i64 0, .int .i64 0, .int .i64 0, .int .i64 0, .slice none 0 0] _ rfl KF Tryd.underlying47 rfl Tryd.sizeP6) rfl (x6_bad (by decide) rfl HE.out)
  have HS := Lib.hid hs
  go_wp2_with ((apply load_by rfl _ _ rfl _ rfl); (focus (with_reducible assumption)))
  refine (check6_yes src W2 HS.out).mono ?_
  rintro e W3 ⟨rfl, q3⟩
  replace E1 := E1.trans q3
  replace KP := KP.ext q3
  replace KA := KA.ext q3
  replace KB := KB.ext q3
  replace KR := KR.ext q3
  clear ls q3
  have ls := KB.six0
  cases hd : okS dst
  case false =>
    have hq : Q = 1 := by have := HQ2.out; rw [if_pos (by simp [hd])] at this; exact this.symm
    subst hq
    have HD := Lib.hid hd
    clear hs hd
    go_wp2_with ((apply load_by rfl _ _ rfl _ rfl); (focus (with_reducible assumption)))
    refine (check6_no dst W3 HD.out).mono ?_
    rintro e W4 ⟨rfl, q4⟩
    replace E1 := E1.trans q4
    replace KR := KR.ext q4
    have st0 := sto60 KR
    have KF := KR.row #[.int .i64 0, .int .i64 0, .int .i64 0, .int .i64 0, .int .i64 0, .int .i64 0, .int .i64 0, .int .i64 0, .int .i64 0, .int .i64 0, .int .i64 0, .int .i64 0, .int .i64 0, .int .i64 0, .int .i64 0, .int .i64 0, .int .i64 0, .int .i64 0, .slice none 0 0]
    have HE := Lib.hid (E1.row (k := w.heap.size + 3) (by omega) #[.int .i64 0, .int .i64 0, .int .i64 0, .int .i64 0, .int .i64 0, .int .i64 0, .int .i64 0, .int .i64 0, .int .i64 0, .int .i64 0, .int .i64 0, .int .i64 0, .int .i64 0, .int .i64 0, .int .i64 0, .int .i64 0, .int .i64 0, .int .i64 0, .slice none 0 0])
    unfold errv
    clear ls E1 KP KA KB KR q4
    go_wp2_with ((apply store_by rfl _ _ _ rfl _ rfl); (focus (with_reducible assumption)); (focus rfl))
    refine bodyPost_ret (results_cell2 Tryd.results16 _ _ (w.heap.size + 3) 47 #[.int .i64 0, .int .i64 0, .int .i64 0, .int .i64 0, .int .i64 0, .int .i64 0, .int .i64 0, .int .i64 0, .int .i64 0, .int .i64 0, .int .i64 0, .int .i64 0, .int .i64 0, .int .i64 0, .int .i64 0, .int .i64 0, .int .i64 0, .int .i64 0, .slice none 0 0] _ rfl KF Tryd.underlying47 rfl Tryd.sizeP6) rfl (x6_bad (by decide) rfl HE.out)
  have HD := Lib.hid hd
  have HQ3 := Lib.hid (show (if Pl.opQ k xs (val4 s d k n) ≠ 0 then Pl.opQ k xs (val4 s d k n) else if t < 2 then 7 else 0) = Q by
    have := HQ2.out
    rw [if_neg (by simp [hs, hd])] at this
    exact this)
  clear hs hd HQ2
  go_wp2_with ((apply load_by rfl _ _ rfl _ rfl); (focus (with_reducible assumption)))
  refine (check6_yes dst W3 HD.out).mono ?_
  rintro e W4 ⟨rfl, q4⟩
  replace E1 := E1.trans q4
  replace KP := KP.ext q4
  replace KA := KA.ext q4
  replace KB := KB.ext q4
  replace KR := KR.ext q4
  clear ls q4
  have ld := KP.p4
  go_wp2_with ((apply load_by rfl _ _ rfl _ rfl); (focus (with_reducible assumption)))
  refine (open4_any s d t k i a n c xs W4 HOK.out.1 hn (HR.out.ext E1) HB.out hnc HC.out).mono ?_
  have HZ := Lib.hid (fun h => op_zero (k := k) (over := val4 s d k n) HB.out h)
  generalize val4 s d k n = O at *
  obtain ⟨P, hP⟩ : ∃ P, Pl.opQ k xs O = P := ⟨_, rfl⟩
  obtain ⟨V, hV⟩ : ∃ V, Pl.opV k xs O = V := ⟨_, rfl⟩
  obtain ⟨D, hD⟩ : ∃ D, Pl.opD k xs O = D := ⟨_, rfl⟩
  unfold OpGot
  rw [hP, hV, hD]
  rw [hP] at HZ HQ3
  rw [hV, hD] at HZ
  clear hP hV hD
  rintro e W5 ⟨a3, n3, c3, rfl, o3, q5⟩
  obtain ⟨_, _, _, hv3, _, r3⟩ := o3.read
  cases hv3
  have KX := Blk.new W5 38 #[.int .i64 0, .int .i64 0, .int .i64 0, .int .i64 0, .int .i64 0, .int .i64 0, .int .i64 0, .slice none 0 0]
  have st := sto KX V a3 n3 c3
  have KY := KX.row (V.cells (.slice a3 n3 c3))
  have E3 := E1.trans q5
  have hs3 := E3.size
  have hq3 := q5.size
  have hkp := KP.lt
  have hkr := KR.lt
  have E4 := (E3.alloc (.cells #[.int .i64 0, .int .i64 0, .int .i64 0, .int .i64 0, .int .i64 0, .int .i64 0, .int .i64 0, .slice none 0 0] 38)).row hs3 (V.cells (.slice a3 n3 c3))
  have KP4 := ((KP.ext q5).alloc (.cells #[.int .i64 0, .int .i64 0, .int .i64 0, .int .i64 0, .int .i64 0, .int .i64 0, .int .i64 0, .slice none 0 0] 38)).farRow (show w.heap.size ≠ W5.heap.size by omega) (V.cells (.slice a3 n3 c3))
  have KA4 := ((KA.ext q5).alloc (.cells #[.int .i64 0, .int .i64 0, .int .i64 0, .int .i64 0, .int .i64 0, .int .i64 0, .int .i64 0, .slice none 0 0] 38)).farRow (show w.heap.size + 1 ≠ W5.heap.size by omega) (V.cells (.slice a3 n3 c3))
  have KB4 := ((KB.ext q5).alloc (.cells #[.int .i64 0, .int .i64 0, .int .i64 0, .int .i64 0, .int .i64 0, .int .i64 0, .int .i64 0, .slice none 0 0] 38)).farRow (show w.heap.size + 2 ≠ W5.heap.size by omega) (V.cells (.slice a3 n3 c3))
  have KR4 := ((KR.ext q5).alloc (.cells #[.int .i64 0, .int .i64 0, .int .i64 0, .int .i64 0, .int .i64 0, .int .i64 0, .int .i64 0, .slice none 0 0] 38)).farRow (show w.heap.size + 3 ≠ W5.heap.size by omega) (V.cells (.slice a3 n3 c3))
  have r4 := Ints.keepRow (r3.ext ((Ext.refl W5).alloc (.cells #[.int .i64 0, .int .i64 0, .int .i64 0, .int .i64 0, .int .i64 0, .int .i64 0, .int .i64 0, .slice none 0 0] 38))) W5.heap.size (V.cells (.slice a3 n3 c3)) (fun h0 p hp => by
    obtain ⟨b, o, rfl, hb, _⟩ := r3.at h0
    cases hp
    show b ≠ _
    omega)
  clear KX E3 q5 r3 E1 KP KA KB KR ld o3
  by_cases hp : P = 0
  case neg =>
    have hq : Q = P := by have := HQ3.out; rw [if_pos hp] at this; exact this.symm
    subst hq
    rw [erv_ne hp]
    have s2 := sto60 KR4
    have KF := KR4.row #[.int .i64 0, .int .i64 0, .int .i64 0, .int .i64 0, .int .i64 0, .int .i64 0, .int .i64 0, .int .i64 0, .int .i64 0, .int .i64 0, .int .i64 0, .int .i64 0, .int .i64 0, .int .i64 0, .int .i64 0, .int .i64 0, .int .i64 0, .int .i64 0, .slice none 0 0]
    have HE := Lib.hid (E4.row (k := w.heap.size + 3) (by omega) #[.int .i64 0, .int .i64 0, .int .i64 0, .int .i64 0, .int .i64 0, .int .i64 0, .int .i64 0, .int .i64 0, .int .i64 0, .int .i64 0, .int .i64 0, .int .i64 0, .int .i64 0, .int .i64 0, .int .i64 0, .int .i64 0, .int .i64 0, .int .i64 0, .slice none 0 0])
    have HN := Lib.hid hp
    unfold errv
    clear hp E4 KP4 KA4 KB4 KR4 KY r4
    go_wp2_with ((apply store_by rfl _ _ _ rfl _ rfl); (focus (with_reducible assumption)); (focus rfl))
    refine bodyPost_ret (results_cell2 Tryd.results16 _ _ (w.heap.size + 3) 47 #[.int .i64 0, .int .i64 0, .int .i64 0, .int .i64 0, .int .i64 0, .int .i64 0, .int .i64 0, .int .i64 0, .int .i64 0, .int .i64 0, .int .i64 0, .int .i64 0, .int .i64 0, .int .i64 0, .int .i64 0, .int .i64 0, .int .i64 0, .int .i64 0, .slice none 0 0] _ rfl KF Tryd.underlying47 rfl Tryd.sizeP6) rfl (x6_bad HN.out (erv_ne HN.out).symm HE.out)
  have hQ4 : (if t < 2 then 7 else 0) = Q := by have := HQ3.out; rw [if_neg (by simpa using hp)] at this; exact this
  obtain ⟨_, hVV, hDD, hok, _⟩ := HZ.out hp
  subst hp
  rw [erv_zero]
  have c2 : World.cell? _ ⟨w.heap.size, 2, none⟩ = some (.int .i64 t) := KP4.cells 2
  clear HZ HQ3
  by_cases hh : t < 2
  case pos =>
    have hq : Q = 7 := by rw [if_pos hh] at hQ4; exact hQ4.symm
    subst hq
    have s2 := sto60 KR4
    have KF := KR4.row #[.int .i64 0, .int .i64 0, .int .i64 0, .int .i64 0, .int .i64 0, .int .i64 0, .int .i64 0, .int .i64 0, .int .i64 0, .int .i64 0, .int .i64 0, .int .i64 0, .int .i64 0, .int .i64 0, .int .i64 0, .int .i64 0, .int .i64 0, .int .i64 0, .slice none 0 0]
    have HE := Lib.hid (E4.row (k := w.heap.size + 3) (by omega) #[.int .i64 0, .int .i64 0, .int .i64 0, .int .i64 0, .int .i64 0, .int .i64 0, .int .i64 0, .int .i64 0, .int .i64 0, .int .i64 0, .int .i64 0, .int .i64 0, .int .i64 0, .int .i64 0, .int .i64 0, .int .i64 0, .int .i64 0, .int .i64 0, .slice none 0 0])
    clear hQ4 E4 KP4 KA4 KB4 KR4 KY r4 hVV hDD hok
    go_wp2_with ((apply store_by rfl _ _ _ rfl _ rfl); (focus (with_reducible assumption)); (focus rfl))
    refine bodyPost_ret (results_cell2 Tryd.results16 _ _ (w.heap.size + 3) 47 #[.int .i64 0, .int .i64 0, .int .i64 0, .int .i64 0, .int .i64 0, .int .i64 0, .int .i64 0, .int .i64 0, .int .i64 0, .int .i64 0, .int .i64 0, .int .i64 0, .int .i64 0, .int .i64 0, .int .i64 0, .int .i64 0, .int .i64 0, .int .i64 0, .slice none 0 0] _ rfl KF Tryd.underlying47 rfl Tryd.sizeP6) rfl (x6_bad (by decide) rfl HE.out)
  have hq : Q = 0 := by rw [if_neg hh] at hQ4; exact hQ4.symm
  subst hq
  have htb := HOK.out.1.2.2.1.2
  have ew : IntKind.i64.wrap (t - 1) = t - 1 := IntWalk.i64_in _ (by omega)
  have lv := KY.seg
  have la := KA4.six0
  have lb := KB4.six0
  have hDl := r4.len
  have hok' : Pl.SegOk V n3 := by rw [hVV, ← hDl, hDD]; exact hok
  have hkV : V.kind = k := by rw [hVV]; exact Pl.decSeg_kind _ _
  have hBody : body6 V src dst D = x6B k xs src dst 0 := by unfold x6B; rw [if_pos rfl, hVV, hDD]
  have hID : Pl.IsB D := by rw [hDD]; exact HB.out.drop _
  have HCL := Lib.hid (close6_any V src dst (t - 1) a3 n3 c3 D _ hok' HS.out HD.out r4 hID)
  have HBO := Lib.hid hBody
  have HKV := Lib.hid hkV
  clear hQ4 hVV hDD hok r4 hDl hok' hkV hBody hID
  unfold Six.v at HCL
  go_wp2_with (first | ((apply load_by rfl _ _ rfl _ rfl); (focus (with_reducible assumption))) | ((apply store_by rfl _ _ _ rfl _ rfl); (focus (with_reducible assumption)); (focus rfl)))
  refine HCL.out.mono ?_
  rintro e W6 ⟨a5, n5, c5, rfl, o5, q6⟩
  rw [HKV.out]
  rw [HBO.out] at o5
  have KR5 := KR4.ext q6
  have E5 := E4.trans q6
  have hsz := E4.size
  have hkr4 := KR4.lt
  have s5 := sto6l KR5 ⟨src, dst, t - 1, k⟩ a5 n5 c5
  have KF := KR5.row ((⟨src, dst, t - 1, k⟩ : P6).cells (.slice a5 n5 c5))
  have HO := Lib.hid ((o5.rowOff (k := w.heap.size + 3) (fun j hj => by have := (o5.lt j hj).1; omega) ((⟨src, dst, t - 1, k⟩ : P6).cells (.slice a5 n5 c5))).mono hsz)
  have HE := Lib.hid (E5.row (k := w.heap.size + 3) (by omega) ((⟨src, dst, t - 1, k⟩ : P6).cells (.slice a5 n5 c5)))
  clear HCL o5 q6 KR5 E5 KR4 KP4 KA4 KB4 KY E4 lv la lb st c2 ew
  go_wp2_with ((apply store_by rfl _ _ _ rfl _ rfl); (focus (with_reducible assumption)); (focus rfl))
  refine bodyPost_ret (results_cell2 Tryd.results16 _ _ (w.heap.size + 3) 47 ((⟨src, dst, t - 1, k⟩ : P6).cells (.slice a5 n5 c5)) _ rfl KF Tryd.underlying47 rfl Tryd.sizeP6) rfl ⟨a5, n5, c5, rfl, HO.out, HE.out⟩
end Go.Proofs.YtbjogkpepfgegaaDoor
