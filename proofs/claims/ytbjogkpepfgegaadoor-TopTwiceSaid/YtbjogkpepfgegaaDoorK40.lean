/- cross.To4 and the document's Crossed4, of any packet. Conditions: as each theorem states them. -/
import Derived.Test.YtbjogkpepfgegaaDoorK36
import Derived.Test.YtbjogkpepfgegaaDoorK06
namespace Go.Proofs.YtbjogkpepfgegaaDoor
open Go.RowKit
/-- What is wrong with a packet that is to cross. -/
def x4Q (p : P6) (n : Nat) (xs : List Int) (src dst : Int) : Int :=
  if p.fault n ≠ 0 then p.fault n else if ¬ (w32 src = true ∧ w32 dst = true) then 1
  else if Pl.opQ p.kind xs (val6 p.src p.dst p.kind n) ≠ 0 then Pl.opQ p.kind xs (val6 p.src p.dst p.kind n) else if p.hop < 2 then 7 else 0
def zq (Q x : Int) : Int := if Q = 0 then x else 0
def x4B (p : P6) (xs : List Int) (src dst Q : Int) : List Int := if Q = 0 then body4 (Pl.decSeg p.kind xs) src dst (xs.drop (Pl.segSize p.kind)) else []
def x4c (p : P6) (src dst Q : Int) (v : Value) : Array Value := c4 (zq Q src) (zq Q dst) (zq Q (p.hop - 1)) (zq Q p.kind) 0 v
def X4Got (p : P6) (xs : List Int) (src dst Q : Int) (err : Value) (w : World) (e : Ending) (w' : World) : Prop :=
  ∃ a n c, e = .returned (.tuple #[.agg (x4c p src dst Q (.slice a n c)), err]) ∧ Own w' w.heap.size (.slice a n c) (x4B p xs src dst Q) ∧ Ext w w'
theorem x4_bad {p : P6} {xs : List Int} {src dst Q : Int} {err v : Value} {w w' : World} (hq : Q ≠ 0) (hv : v = err) (he : Ext w w') : X4Got p xs src dst Q err w (.returned (.tuple #[.agg (c4 0 0 0 0 0 (.slice none 0 0)), v])) w' := by
  subst hv
  refine ⟨none, 0, 0, ?_, ?_, he⟩
  · unfold x4c zq
    rw [if_neg hq, if_neg hq, if_neg hq, if_neg hq]
  · unfold x4B
    rw [if_neg hq]
    exact Own.nil _ _
theorem op_zero {k over : Int} {xs : List Int} (hb : Pl.IsB xs) (h : Pl.opQ k xs over = 0) : (k = 6 ∨ k = 17) ∧ Pl.opV k xs over = Pl.decSeg k xs ∧ Pl.opD k xs over = xs.drop (Pl.segSize k) ∧ Pl.SegOk (Pl.decSeg k xs) (xs.drop (Pl.segSize k)).length ∧ Pl.segQ k xs over = 0 := by
  have hv : Pl.opV k xs over = Pl.decSeg k xs := by unfold Pl.opV; rw [if_pos h]
  have hd : Pl.opD k xs over = xs.drop (Pl.segSize k) := by unfold Pl.opD; rw [if_pos h]
  have h' := h
  unfold Pl.opQ at h'
  split at h'
  · cases h'
  obtain ⟨h1, _, _, _, h5⟩ := Pl.segQ_zero hb h'
  exact ⟨h1, hv, hd, h5, h'⟩
set_option maxRecDepth 100000 in
set_option maxHeartbeats 4000000 in
theorem to4_any (p : P6) (a : Option Addr) (n c : Nat) (xs : List Int) (src dst : Int) (w : World) (hr : Ints .u8 w a n xs) (hb : Pl.IsB xs) (hnc : n ≤ c) (hc : a = none → c = 0) :
    Calls Tryd.prog 15 #[p.v (.slice a n c), .int .i64 src, .int .i64 dst] w (X4Got p xs src dst (x4Q p n xs src dst) (erv (x4Q p n xs src dst)) w) := by
  have KP := (Blk.new w 47 (p.cells (.slice a n c))).alloc (.cells (c4 0 0 0 0 0 (.slice none 0 0)) 42)
  have KR := Blk.at (n := w.heap.size + 1) (w.alloc (.cells (p.cells (.slice a n c)) 47)) 42 (c4 0 0 0 0 0 (.slice none 0 0)) (by simp)
  have E0 : Ext w _ := ((Ext.refl w).alloc (.cells (p.cells (.slice a n c)) 47)).alloc (.cells (c4 0 0 0 0 0 (.slice none 0 0)) 42)
  have HR := Lib.hid hr
  have HB := Lib.hid hb
  have HC := Lib.hid hc
  obtain ⟨Q, hQ⟩ : ∃ Q, x4Q p n xs src dst = Q := ⟨_, rfl⟩
  rw [hQ]
  have HQ := Lib.hid hQ
  obtain ⟨F, hF⟩ : ∃ F, p.fault n = F := ⟨_, rfl⟩
  have HF := Lib.hid hF
  have HCK := Lib.hid (fun W => hF ▸ check6p_any p a n c W)
  clear hr hb hQ hF hc
  go_enter Tryd.func15, Tryd.ntmps15
  go_upto_region 1 with (fail)
  refine at_worldE (fun W => Ext w W ∧ Blk W w.heap.size 47 (p.cells (.slice a n c)) ∧ Blk W (w.heap.size + 1) 42 (c4 0 0 0 0 0 (.slice none 0 0))) ⟨E0, KP, KR⟩ ?_
  clear E0 KP KR
  rintro W1 ⟨E1, KP, KR⟩
  have ld := KP.p6
  go_wp2_with ((apply load_by rfl _ _ rfl _ rfl); (focus (with_reducible assumption)))
  refine (HCK.out W1).mono ?_
  rintro e W2 ⟨rfl, q2⟩
  replace E1 := E1.trans q2
  replace KP := KP.ext q2
  replace KR := KR.ext q2
  clear ld q2
  by_cases hf : F = 0
  case neg =>
    have hq : Q = F := by have := HQ.out; unfold x4Q at this; rw [HF.out, if_pos hf] at this; exact this.symm
    subst hq
    rw [erv_ne hf]
    have st := sto4 KR 0 0 0 0 0 none 0 0
    have KF := KR.row (c4 0 0 0 0 0 (.slice none 0 0))
    have HE := Lib.hid (E1.row (k := w.heap.size + 1) (Nat.le_succ _) (c4 0 0 0 0 0 (.slice none 0 0)))
    have HN := Lib.hid hf
    unfold errv
    clear hf E1 KP KR
    go_wp2_with ((apply store_by rfl _ _ _ rfl _ rfl); (focus (with_reducible assumption)); (focus rfl))
    refine bodyPost_ret (results_cell2 Tryd.results15 _ _ (w.heap.size + 1) 42 (c4 0 0 0 0 0 (.slice none 0 0)) _ rfl KF Tryd.underlying42 rfl Tryd.sizeP4) rfl (x4_bad HN.out (erv_ne HN.out).symm HE.out)
  subst hf
  rw [erv_zero]
  obtain ⟨hg, hn⟩ := P6.fault_zero HF.out
  have HG := Lib.hid hg
  clear hg
  have hQ2 : (if ¬ (w32 src = true ∧ w32 dst = true) then 1 else if Pl.opQ p.kind xs (val6 p.src p.dst p.kind n) ≠ 0 then Pl.opQ p.kind xs (val6 p.src p.dst p.kind n) else if p.hop < 2 then 7 else 0) = Q := by
    have := HQ.out
    unfold x4Q at this
    rw [HF.out, if_neg (by simp)] at this
    exact this
  have HQ2 := Lib.hid hQ2
  clear hQ2 HQ
  cases hs : w32 src
  case false =>
    have hq : Q = 1 := by have := HQ2.out; rw [if_pos (by simp [hs])] at this; exact this.symm
    subst hq
    have st := sto4 KR 0 0 0 0 0 none 0 0
    have KF := KR.row (c4 0 0 0 0 0 (.slice none 0 0))
    have HE := Lib.hid (E1.row (k := w.heap.size + 1) (Nat.le_succ _) (c4 0 0 0 0 0 (.slice none 0 0)))
    have HS := Lib.hid hs
    clear hs E1 KP KR
    go_wp2_with fail
    refine (is_any src W2).mono ?_
    rintro e w' ⟨rfl, rfl⟩
    rw [HS.out]
    go_wp2_with ((apply store_by rfl _ _ _ rfl _ rfl); (focus (with_reducible assumption)); (focus rfl))
    refine bodyPost_ret (results_cell2 Tryd.results15 _ _ (w.heap.size + 1) 42 (c4 0 0 0 0 0 (.slice none 0 0)) _ rfl KF Tryd.underlying42 rfl Tryd.sizeP4) rfl (x4_bad (by decide) rfl HE.out)
  have HS := Lib.hid hs
  cases hd : w32 dst
  case false =>
    have hq : Q = 1 := by have := HQ2.out; rw [if_pos (by simp [hd])] at this; exact this.symm
    subst hq
    have st := sto4 KR 0 0 0 0 0 none 0 0
    have KF := KR.row (c4 0 0 0 0 0 (.slice none 0 0))
    have HE := Lib.hid (E1.row (k := w.heap.size + 1) (Nat.le_succ _) (c4 0 0 0 0 0 (.slice none 0 0)))
    have HD := Lib.hid hd
    clear hs hd E1 KP KR
    go_wp2_with fail
    refine (is_any src W2).mono ?_
    rintro e w' ⟨rfl, rfl⟩
    rw [HS.out]
    go_wp2_with fail
    refine (is_any dst W2).mono ?_
    rintro e w' ⟨rfl, rfl⟩
    rw [HD.out]
    go_wp2_with ((apply store_by rfl _ _ _ rfl _ rfl); (focus (with_reducible assumption)); (focus rfl))
    refine bodyPost_ret (results_cell2 Tryd.results15 _ _ (w.heap.size + 1) 42 (c4 0 0 0 0 0 (.slice none 0 0)) _ rfl KF Tryd.underlying42 rfl Tryd.sizeP4) rfl (x4_bad (by decide) rfl HE.out)
  have HD := Lib.hid hd
  have hQ3 : (if Pl.opQ p.kind xs (val6 p.src p.dst p.kind n) ≠ 0 then Pl.opQ p.kind xs (val6 p.src p.dst p.kind n) else if p.hop < 2 then 7 else 0) = Q := by
    have := HQ2.out
    rw [if_neg (by simp [hs, hd])] at this
    exact this
  have HQ3 := Lib.hid hQ3
  clear hs hd hQ3 HQ2
  have ld := KP.p6
  go_wp2_with fail
  refine (is_any src W2).mono ?_
  rintro e w' ⟨rfl, rfl⟩
  rw [HS.out]
  go_wp2_with fail
  refine (is_any dst W2).mono ?_
  rintro e w' ⟨rfl, rfl⟩
  rw [HD.out]
  go_wp2_with ((apply load_by rfl _ _ rfl _ rfl); (focus (with_reducible assumption)))
  refine (open6_any p a n c xs W2 HG.out hn (HR.out.ext E1) HB.out hnc HC.out).mono ?_
  have HZ := Lib.hid (fun h => op_zero (k := p.kind) (over := val6 p.src p.dst p.kind n) HB.out h)
  generalize val6 p.src p.dst p.kind n = O at *
  obtain ⟨P, hP⟩ : ∃ P, Pl.opQ p.kind xs O = P := ⟨_, rfl⟩
  obtain ⟨V, hV⟩ : ∃ V, Pl.opV p.kind xs O = V := ⟨_, rfl⟩
  obtain ⟨D, hD⟩ : ∃ D, Pl.opD p.kind xs O = D := ⟨_, rfl⟩
  unfold OpGot
  rw [hP, hV, hD]
  rw [hP] at HZ HQ3
  rw [hV, hD] at HZ
  clear hP hV hD
  rintro e W3 ⟨a3, n3, c3, rfl, o3, q3⟩
  have KA := Blk.new W3 38 #[.int .i64 0, .int .i64 0, .int .i64 0, .int .i64 0, .int .i64 0, .int .i64 0, .int .i64 0, .slice none 0 0]
  have st := sto KA V a3 n3 c3
  have KB := KA.row (V.cells (.slice a3 n3 c3))
  have E3 := E1.trans q3
  have hs3 := E3.size
  have hq3 := q3.size
  have hkp := KP.lt
  have hkr := KR.lt
  have E4 := (E3.alloc (.cells #[.int .i64 0, .int .i64 0, .int .i64 0, .int .i64 0, .int .i64 0, .int .i64 0, .int .i64 0, .slice none 0 0] 38)).row hs3 (V.cells (.slice a3 n3 c3))
  have KP4 := ((KP.ext q3).alloc (.cells #[.int .i64 0, .int .i64 0, .int .i64 0, .int .i64 0, .int .i64 0, .int .i64 0, .int .i64 0, .slice none 0 0] 38)).farRow (show w.heap.size ≠ W3.heap.size by omega) (V.cells (.slice a3 n3 c3))
  have KR4 := ((KR.ext q3).alloc (.cells #[.int .i64 0, .int .i64 0, .int .i64 0, .int .i64 0, .int .i64 0, .int .i64 0, .int .i64 0, .slice none 0 0] 38)).farRow (show w.heap.size + 1 ≠ W3.heap.size by omega) (V.cells (.slice a3 n3 c3))
  have o4 := (o3.ext ((Ext.refl W3).alloc (.cells #[.int .i64 0, .int .i64 0, .int .i64 0, .int .i64 0, .int .i64 0, .int .i64 0, .int .i64 0, .slice none 0 0] 38))).rowOff (k := W3.heap.size) (fun j hj => by have := (o3.lt j hj).2; omega) (V.cells (.slice a3 n3 c3))
  clear KA E3 q3 o3 E1 KP KR ld
  by_cases hp : P = 0
  case neg =>
    have hq : Q = P := by have := HQ3.out; rw [if_pos hp] at this; exact this.symm
    subst hq
    rw [erv_ne hp]
    have s2 := sto4 KR4 0 0 0 0 0 none 0 0
    have KF := KR4.row (c4 0 0 0 0 0 (.slice none 0 0))
    have HE := Lib.hid (E4.row (k := w.heap.size + 1) (Nat.le_succ _) (c4 0 0 0 0 0 (.slice none 0 0)))
    have HN := Lib.hid hp
    unfold errv
    clear hp E4 KP4 KR4 KB o4
    go_wp2_with ((apply store_by rfl _ _ _ rfl _ rfl); (focus (with_reducible assumption)); (focus rfl))
    refine bodyPost_ret (results_cell2 Tryd.results15 _ _ (w.heap.size + 1) 42 (c4 0 0 0 0 0 (.slice none 0 0)) _ rfl KF Tryd.underlying42 rfl Tryd.sizeP4) rfl (x4_bad HN.out (erv_ne HN.out).symm HE.out)
  have hQ4 : (if p.hop < 2 then 7 else 0) = Q := by have := HQ3.out; rw [if_neg (by simpa using hp)] at this; exact this
  obtain ⟨hk, hVV, hDD, hok, _⟩ := HZ.out hp
  subst hp
  rw [erv_zero]
  obtain ⟨c16, c17, c18⟩ := KP4.p6nums
  have HK := Lib.hid hk
  clear hk c17 c18 HZ HQ3
  by_cases hh : p.hop < 2
  case pos =>
    have hq : Q = 7 := by rw [if_pos hh] at hQ4; exact hQ4.symm
    subst hq
    have s2 := sto4 KR4 0 0 0 0 0 none 0 0
    have KF := KR4.row (c4 0 0 0 0 0 (.slice none 0 0))
    have HE := Lib.hid (E4.row (k := w.heap.size + 1) (Nat.le_succ _) (c4 0 0 0 0 0 (.slice none 0 0)))
    clear hQ4 E4 KP4 KR4 KB o4 hVV hDD hok
    go_wp2_with ((apply store_by rfl _ _ _ rfl _ rfl); (focus (with_reducible assumption)); (focus rfl))
    refine bodyPost_ret (results_cell2 Tryd.results15 _ _ (w.heap.size + 1) 42 (c4 0 0 0 0 0 (.slice none 0 0)) _ rfl KF Tryd.underlying42 rfl Tryd.sizeP4) rfl (x4_bad (by decide) rfl HE.out)
  have hq : Q = 0 := by rw [if_neg hh] at hQ4; exact hQ4.symm
  subst hq
  obtain ⟨_, _, ⟨_, hhb⟩, _⟩ := P6.good_all HG.out
  have ew : IntKind.i64.wrap (p.hop - 1) = p.hop - 1 := IntWalk.i64_in _ (by omega)
  have lv := KB.seg
  obtain ⟨_, _, _, hv4, _, r4⟩ := o4.read
  cases hv4
  have hDl := r4.len
  have hok' : Pl.SegOk V n3 := by rw [hVV, ← hDl, hDD]; exact hok
  have hkV : V.kind = p.kind := by rw [hVV]; exact Pl.decSeg_kind _ _
  have hBody : body4 V src dst D = x4B p xs src dst 0 := by unfold x4B; rw [if_pos rfl, hVV, hDD]
  have hID : Pl.IsB D := by rw [hDD]; exact HB.out.drop _
  have HCL := Lib.hid (close4_any V src dst (p.hop - 1) a3 n3 c3 D _ hok' (w32_yes HS.out) (w32_yes HD.out) r4 hID)
  have HBO := Lib.hid hBody
  have HKV := Lib.hid hkV
  clear hQ4 hVV hDD hok r4 hDl hok' hkV hBody hID o4
  go_wp2_with (first | ((apply load_by rfl _ _ rfl _ rfl); (focus (with_reducible assumption))) | ((apply store_by rfl _ _ _ rfl _ rfl); (focus (with_reducible assumption)); (focus rfl)))
  refine HCL.out.mono ?_
  rintro e W5 ⟨a5, n5, c5, rfl, o5, q5⟩
  rw [HKV.out]
  rw [HBO.out] at o5
  have KR5 := KR4.ext q5
  have E5 := E4.trans q5
  have hsz := E4.size
  have hkr4 := KR4.lt
  have s5 := sto4 KR5 src dst (p.hop - 1) p.kind 0 a5 n5 c5
  have KF := KR5.row (c4 src dst (p.hop - 1) p.kind 0 (.slice a5 n5 c5))
  have HO := Lib.hid ((o5.rowOff (k := w.heap.size + 1) (fun j hj => by have := (o5.lt j hj).1; omega) (c4 src dst (p.hop - 1) p.kind 0 (.slice a5 n5 c5))).mono hsz)
  have HE := Lib.hid (E5.row (k := w.heap.size + 1) (Nat.le_succ _) (c4 src dst (p.hop - 1) p.kind 0 (.slice a5 n5 c5)))
  clear HCL o5 q5 KR5 E5 KR4 KP4 KB E4 lv st c16 ew
  unfold pk4
  go_wp2_with ((apply store_by rfl _ _ _ rfl _ rfl); (focus (with_reducible assumption)); (focus rfl))
  refine bodyPost_ret (results_cell2 Tryd.results15 _ _ (w.heap.size + 1) 42 (c4 src dst (p.hop - 1) p.kind 0 (.slice a5 n5 c5)) _ rfl KF Tryd.underlying42 rfl Tryd.sizeP4) rfl ⟨a5, n5, c5, rfl, HO.out, HE.out⟩
end Go.Proofs.YtbjogkpepfgegaaDoor
