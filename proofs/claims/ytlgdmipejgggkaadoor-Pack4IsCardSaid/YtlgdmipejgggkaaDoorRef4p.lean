/- The document's answers on packets of fours: Fault4, Bytes4, Encoded4. Conditions: as each theorem states them. -/
import Derived.Test.YtlgdmipejgggkaaDoorRef4
import Derived.Test.YtlgdmipejgggkaaDoorIp4l
import Derived.Test.YtlgdmipejgggkaaDoorErv
import Derived.Test.YtlgdmipejgggkaaDoorRef6
import Derived.Deep.RegionHeld3
import Derived.Deep.DeepCutAuto
namespace Go.Proofs.YtlgdmipejgggkaaDoor
open Go.RowKit
def ok4b (s d t k i : Int) : Bool := w32 s && w32 d && w8 t && w8 k && w16 i
theorem ok4b_yes {s d t k i : Int} (h : ok4b s d t k i = true) : Pl.Ok4 s d t k i := by
  unfold ok4b at h
  simp only [Bool.and_eq_true] at h
  exact ⟨w32_yes h.1.1.1.1, w32_yes h.1.1.1.2, w8_yes h.1.1.2, w8_yes h.1.2, w16_yes h.2⟩
theorem ok4b_no {s d t k i : Int} (h : ok4b s d t k i = false) : ¬ Pl.Ok4 s d t k i := by
  rintro ⟨⟨a0, a1⟩, ⟨b0, b1⟩, ⟨c0, c1⟩, ⟨d0, d1⟩, ⟨e0, e1⟩⟩
  have : ok4b s d t k i = true := by
    unfold ok4b w32 w8 w16
    simp only [Bool.and_eq_true, decide_eq_true_eq]
    omega
  rw [this] at h
  cases h
/-- What is wrong with a packet of n bytes. -/
def fault4 (s d t k i : Int) (n : Nat) : Int := if ok4b s d t k i = true then (if n ≤ 320 then 0 else 3) else 1

set_option maxHeartbeats 2000000 in
theorem rfault4_any (s d t k i : Int) (a : Option Addr) (n c : Nat) (w : World) :
    Calls Tryd.prog 24 #[pk4 s d t k i (.slice a n c)] w fun e w' => e = .returned (.int .i64 (fault4 s d t k i n)) ∧ Ext w w' := by
  have E0 : Ext w (w.alloc (.cells #[.int .i64 s, .int .i64 d, .int .i64 t, .int .i64 k, .int .i64 i, .slice a n c] 54)) := (Ext.refl w).alloc _
  obtain ⟨bs, hs⟩ : ∃ b, w32 s = b := ⟨_, rfl⟩
  obtain ⟨bd, hd⟩ : ∃ b, w32 d = b := ⟨_, rfl⟩
  obtain ⟨bt, ht⟩ : ∃ b, w8 t = b := ⟨_, rfl⟩
  obtain ⟨bk, hk⟩ : ∃ b, w8 k = b := ⟨_, rfl⟩
  obtain ⟨bi, hi⟩ : ∃ b, w16 i = b := ⟨_, rfl⟩
  have hg : ok4b s d t k i = (bs && bd && bt && bk && bi) := by unfold ok4b; rw [hs, hd, ht, hk, hi]
  have HS := Lib.hid (fun W => (show Calls Tryd.prog 49 #[.int .i64 s] W (fun e w' => e = .returned (.bool bs) ∧ W = w') from hs ▸ isFour_any s W))
  have HD := Lib.hid (fun W => (show Calls Tryd.prog 49 #[.int .i64 d] W (fun e w' => e = .returned (.bool bd) ∧ W = w') from hd ▸ isFour_any d W))
  have HT := Lib.hid (fun W => (show Calls Tryd.prog 39 #[.int .i64 t] W (fun e w' => e = .returned (.bool bt) ∧ W = w') from ht ▸ isByte_any t W))
  have HK := Lib.hid (fun W => (show Calls Tryd.prog 39 #[.int .i64 k] W (fun e w' => e = .returned (.bool bk) ∧ W = w') from hk ▸ isByte_any k W))
  have HI := Lib.hid (fun W => (show Calls Tryd.prog 11 #[.int .i64 i] W (fun e w' => e = .returned (.bool bi) ∧ W = w') from hi ▸ word_any i W))
  have HG := Lib.hid hg
  clear hs hd ht hk hi hg
  unfold pk4
  go_enter Tryd.func24, Tryd.ntmps24
  go_wp2_with fail
  refine (HS.out _).mono ?_
  rintro e w' ⟨rfl, rfl⟩
  go_wp2_with fail
  refine (HD.out _).mono ?_
  rintro e w' ⟨rfl, rfl⟩
  go_wp2_with fail
  refine (HT.out _).mono ?_
  rintro e w' ⟨rfl, rfl⟩
  go_wp2_with fail
  refine (HK.out _).mono ?_
  rintro e w' ⟨rfl, rfl⟩
  go_wp2_with fail
  refine (HI.out _).mono ?_
  rintro e w' ⟨rfl, rfl⟩
  by_cases hall : (bs && bd && bt && bk && bi) = true
  case neg =>
    have hf : fault4 s d t k i n = 1 := by unfold fault4; rw [HG.out, if_neg hall]
    have HF := Lib.hid hf
    clear hf
    cases bs
    case' true =>
      cases bd
      case' true =>
        cases bt
        case' true =>
          cases bk
          case' true =>
            cases bi
            case' true => exact absurd rfl hall
    all_goals
      clear hall
      go_wp2_with fail
      go_ret
      exact ⟨by rw [HF.out]; first | done | rfl, E0⟩
  case pos =>
    simp only [Bool.and_eq_true] at hall
    obtain ⟨⟨⟨⟨rfl, rfl⟩, rfl⟩, rfl⟩, rfl⟩ := hall
    by_cases hn : n ≤ 320
    · have hf : fault4 s d t k i n = 0 := by unfold fault4; rw [HG.out]; simp [hn]
      have HF := Lib.hid hf
      have hn' : ¬ (320 : Int) < (n : Int) := by omega
      clear hf
      go_wp2_with fail
      go_ret
      exact ⟨by rw [HF.out]; first | done | rfl, E0⟩
    · have hf : fault4 s d t k i n = 3 := by unfold fault4; rw [HG.out]; simp [hn]
      have HF := Lib.hid hf
      have hn' : (320 : Int) < (n : Int) := by omega
      clear hf
      go_wp2_with fail
      go_ret
      exact ⟨by rw [HF.out]; first | done | rfl, E0⟩

set_option maxRecDepth 100000 in
set_option maxHeartbeats 2000000 in
theorem bytes4_any (s d t k i ck : Int) (a : Option Addr) (n c : Nat) (w : World) (h : Pl.Ok4 s d t k i) (hn : n ≤ 320) (hck : 0 ≤ ck ∧ ck ≤ 65535) :
    Calls Tryd.prog 51 #[pk4 s d t k i (.slice a n c), .int .i64 ck] w fun e w' => ∃ v, e = .returned v ∧ Own w' w.heap.size v (Pl.head4 s d t k i n ck) ∧ Ext w w' := by
  obtain ⟨⟨s0, s1⟩, ⟨d0, d1⟩, ⟨t0, t1⟩, ⟨k0, k1⟩, ⟨i0, i1⟩⟩ := h
  obtain ⟨q0, q1⟩ := hck
  have K0 := Blk.new w 54 #[.int .i64 s, .int .i64 d, .int .i64 t, .int .i64 k, .int .i64 i, .slice a n c]
  have E0 : Ext w (w.alloc (.cells #[.int .i64 s, .int .i64 d, .int .i64 t, .int .i64 k, .int .i64 i, .slice a n c] 54)) := (Ext.refl w).alloc _
  have htwo : Pl.two [17664, 20 + (n : Int), i, 16384, t * 256 + k, ck] = Pl.first4 t k i n ck := by
    simp [Pl.two, Pl.first4]
    omega
  have HT := Lib.hid htwo
  have e1 : IntKind.i64.wrap (t * 256) = t * 256 := IntWalk.i64_in _ (by omega)
  have e2 : IntKind.i64.wrap (t * 256 + k) = t * 256 + k := IntWalk.i64_in _ (by omega)
  have e3 : IntKind.i64.wrap (20 + (n : Int)) = 20 + (n : Int) := IntWalk.i64_in _ (by omega)
  clear htwo
  unfold pk4
  go_enter Tryd.func51, Tryd.ntmps51
  go_wp2_with fail
  refine (rwords_any (w.heap.size + 1) (.slice none 0 0) [] (some ⟨w.heap.size + 1, 0, none⟩) 6 6 [17664, 20 + (n : Int), i, 16384, t * 256 + k, ck] _ (Own.nil _ _) ?_ (fun x hx => by simp only [List.mem_cons, List.not_mem_nil, or_false] at hx; rcases hx with rfl | rfl | rfl | rfl | rfl | rfl <;> omega) (by simp) (fun k hk => by cases hk) (by simp)).mono ?_
  · have := ints_new (w.alloc (.cells #[.int .i64 s, .int .i64 d, .int .i64 t, .int .i64 k, .int .i64 i, .slice a n c] 54)) #[.int .i64 17664, .int .i64 (20 + (n : Int)), .int .i64 i, .int .i64 16384, .int .i64 (t * 256 + k), .int .i64 ck] 3 (0, 0) .i64 [17664, 20 + (n : Int), i, 16384, t * 256 + k, ck] rfl
    simpa using this
  rintro e W1 ⟨v1, rfl, o1, b1⟩
  rw [List.nil_append, HT.out] at o1
  have K1 := Blk.below (K0.alloc (.cells #[.int .i64 17664, .int .i64 (20 + (n : Int)), .int .i64 i, .int .i64 16384, .int .i64 (t * 256 + k), .int .i64 ck] 3)) b1 (Nat.lt_succ_self _)
  have E1 : Ext w W1 := Below.trans (E0.alloc (.cells #[.int .i64 17664, .int .i64 (20 + (n : Int)), .int .i64 i, .int .i64 16384, .int .i64 (t * 256 + k), .int .i64 ck] 3)) (Below.mono b1 (Nat.le_succ _))
  have f1 := K1.cells
  have hz1 := K1.lt
  clear K0 E0 b1 e1 e2 e3
  have g0 : W1.cell? ⟨w.heap.size, 0, none⟩ = some (.int .i64 s) := f1 0
  clear f1
  go_wp2_with fail
  refine (fourBytes_any s W1 s0 s1).mono ?_
  rintro e W2 ⟨v2, rfl, o2, q2⟩
  obtain ⟨a2, n2, c2, rfl, _, r2⟩ := o2.read
  obtain rfl : 4 = n2 := r2.len
  have K2 := K1.ext q2
  have E2 := E1.trans q2
  have z2 := q2.size
  clear g0
  go_wp2_with (at_builtin; refine Halt.out ?_)
  refine Halt.mk ?_
  refine app rfl _ _ rfl (w.heap.size + 1) v1 _ rfl (o1.ext q2) a2 4 c2 (Pl.four s) rfl r2 (by simp [Pl.first4]) (by omega) ?_
  intro v3 W3 o3 b3
  have K3 := Blk.below K2 b3 (Nat.lt_succ_self _)
  have E3 : Ext w W3 := Below.trans E2 (Below.mono b3 (Nat.le_succ _))
  have hz3 := K3.lt
  have g1 : W3.cell? ⟨w.heap.size, 1, none⟩ = some (.int .i64 d) := K3.cells 1
  clear K1 K2 E1 E2 o1 o2 q2 r2 b3
  go_wp2_with fail
  refine (fourBytes_any d W3 d0 d1).mono ?_
  rintro e W4 ⟨v4, rfl, o4, q4⟩
  obtain ⟨a4, n4, c4, rfl, _, r4⟩ := o4.read
  obtain rfl : 4 = n4 := r4.len
  have E4 := E3.trans q4
  have z4 := q4.size
  clear g1
  go_wp2_with (at_builtin; refine Halt.out ?_)
  refine Halt.mk ?_
  refine app rfl _ _ rfl (w.heap.size + 1) v3 _ rfl (o3.ext q4) a4 4 c4 (Pl.four d) rfl r4 (by simp [Pl.first4, Pl.four]) (by omega) ?_
  intro v5 W5 o5 b5
  have E5 : Ext w W5 := Below.trans E4 (Below.mono b5 (Nat.le_succ _))
  have HE5 := Lib.hid E5
  have HO5 := Lib.hid o5
  clear E5 o5 b5
  go_wp2_with fail
  go_ret
  exact ⟨_, rfl, HO5.out.mono (Nat.le_succ _), HE5.out⟩

set_option maxRecDepth 100000 in
set_option maxHeartbeats 600000 in
theorem encoded4_any (s d t k i : Int) (a : Option Addr) (n c : Nat) (b : List Int) (w : World) (h : Pl.Ok4 s d t k i) (hn : n ≤ 320) (hr : Ints .u8 w a n b) :
    Calls Tryd.prog 26 #[pk4 s d t k i (.slice a n c)] w fun e w' => ∃ v, e = .returned v ∧ Own w' w.heap.size v (Pl.enc4 s d t k i b) ∧ Ext w w' := by
  have HO := Lib.hid h
  have HR := Lib.hid hr
  have K0 := Blk.new w 54 #[.int .i64 s, .int .i64 d, .int .i64 t, .int .i64 k, .int .i64 i, .slice a n c]
  have E0 : Ext w (w.alloc (.cells #[.int .i64 s, .int .i64 d, .int .i64 t, .int .i64 k, .int .i64 i, .slice a n c] 54)) := (Ext.refl w).alloc _
  have hsum := Pl.sum4_bd s d t k i n
  have hsd : 65535 - Pl.fold (Pl.raw 0 (Pl.head4 s d t k i n 0)) = Pl.sum4 s d t k i n := rfl
  have hsB := Pl.head4_isB h (n := (n : Int)) (c := 0) (by omega) (by omega)
  have f0 := Pl.fold_lo (Pl.raw 0 (Pl.head4 s d t k i n 0))
  have f1 := Pl.fold_hi (Pl.raw 0 (Pl.head4 s d t k i n 0))
  have HSB := Lib.hid hsB
  have HSD := Lib.hid hsd
  have HSUM := Lib.hid hsum
  generalize hF : Pl.fold (Pl.raw 0 (Pl.head4 s d t k i n 0)) = F at *
  have HF := Lib.hid hF
  have ew : IntKind.i64.wrap (65535 - F) = 65535 - F := IntWalk.i64_in _ (by omega)
  clear h hr hsum hsd hsB hF
  unfold pk4
  go_enter Tryd.func26, Tryd.ntmps26
  go_upto_region 1 with (fail)
  refine wp_region_held_drew (S := (fun w' => ∀ j, w'.cell? ⟨w.heap.size, j, none⟩ = (#[.int .i64 s, .int .i64 d, .int .i64 t, .int .i64 k, .int .i64 i, .slice a n c] : Array Value)[j]?)) (by kernel_rfl) (K0.drew).cells (fun hS0 => ?_)
  (refine wpAnyH_take (i := 0) (v := ?_) rfl (by kernel_rfl) (by kernel_rfl) (by kernel_rfl) (fun _ _ _ h => h) (Or.inl ⟨by rfl, ?_⟩) (by assumption) ?_; rotate_left; focus (intro w hSw; (try dsimp only at hSw); go_simp; try with_reducible rfl); try simp only [Act.put, List.getElem_toArray, List.getElem_cons_succ, List.getElem_cons_zero, List.setIfInBounds_toArray, List.set_cons_zero, List.set_cons_succ])
  (refine wpAnyH_take (i := 1) (v := ?_) rfl (by kernel_rfl) (by kernel_rfl) (by kernel_rfl) (fun _ _ _ h => h) (Or.inl ⟨by rfl, ?_⟩) (by assumption) ?_; rotate_left; focus (intro w hSw; (try dsimp only at hSw); go_simp; try with_reducible rfl); try simp only [Act.put, List.getElem_toArray, List.getElem_cons_succ, List.getElem_cons_zero, List.setIfInBounds_toArray, List.set_cons_zero, List.set_cons_succ])
  (refine wpAnyH_ready (rs := [2]) (by kernel_rfl) (by simp) ?_; refine AllReadyH.cons rfl (fun K hK => ?_) AllReadyH.nil)
  go_simp
  go_at_call 51
  refine (bytes4_any s d t k i 0 a n c _ HO.out hn (by omega)).mono ?_
  rintro e W3 ⟨v3, rfl, o3, q3⟩
  obtain ⟨a3, n3, c3, rfl, _, r3⟩ := o3.read
  obtain rfl : 20 = n3 := r3.len
  have K3 : Blk W3 w.heap.size 54 #[.int .i64 s, .int .i64 d, .int .i64 t, .int .i64 k, .int .i64 i, .slice a n c] := K0.drew.ext q3
  have E3 : Ext w W3 := E0.drew.trans q3
  refine hK.out _ _ K3.cells ?_
  clear hK K
  intro hS
  (try simp only [Act.put, List.getElem_toArray, List.getElem_cons_succ, List.getElem_cons_zero, List.setIfInBounds_toArray, List.set_cons_zero, List.set_cons_succ])
  (refine wpAnyH_ready (rs := [3]) (by kernel_rfl) (by simp) ?_; refine AllReadyH.cons rfl (fun K hK => ?_) AllReadyH.nil)
  go_simp
  go_at_call 8
  refine (sumOf_any a3 20 c3 (Pl.head4 s d t k i n 0) W3 r3 HSB.out (by omega)).mono ?_
  rintro e w' ⟨rfl, rfl⟩
  rw [HF.out]
  refine hK.out _ _ K3.cells ?_
  clear hK K
  intro hS
  (try simp only [Act.put, List.getElem_toArray, List.getElem_cons_succ, List.getElem_cons_zero, List.setIfInBounds_toArray, List.set_cons_zero, List.set_cons_succ])
  (refine wpAnyH_take (i := 4) (v := ?_) rfl (by kernel_rfl) (by kernel_rfl) (by kernel_rfl) (fun _ _ _ h => h) (Or.inl ⟨by rfl, ?_⟩) (by assumption) ?_; rotate_left; focus (intro w hSw; (try dsimp only at hSw); go_simp; try with_reducible rfl); try simp only [Act.put, List.getElem_toArray, List.getElem_cons_succ, List.getElem_cons_zero, List.setIfInBounds_toArray, List.set_cons_zero, List.set_cons_succ])
  (refine wpAnyH_ready (rs := [5]) (by kernel_rfl) (by simp) ?_; refine AllReadyH.cons rfl (fun K hK => ?_) AllReadyH.nil)
  go_simp
  go_at_call 51
  refine (bytes4_any s d t k i (65535 - F) a n c _ HO.out hn (by omega)).mono ?_
  rintro e W5 ⟨v5, rfl, o5, q5⟩
  have K5 := K3.ext q5
  have E5 : Ext w W5 := E3.trans q5
  refine hK.out _ _ K5.cells ?_
  clear hK K
  intro hS
  (try simp only [Act.put, List.getElem_toArray, List.getElem_cons_succ, List.getElem_cons_zero, List.setIfInBounds_toArray, List.set_cons_zero, List.set_cons_succ])
  (refine wpAnyH_take (i := 6) (v := ?_) rfl (by kernel_rfl) (by kernel_rfl) (by kernel_rfl) (fun _ _ _ h => h) (Or.inl ⟨by rfl, ?_⟩) (by assumption) ?_; rotate_left; focus (intro w hSw; (try dsimp only at hSw); go_simp; try with_reducible rfl); try simp only [Act.put, List.getElem_toArray, List.getElem_cons_succ, List.getElem_cons_zero, List.setIfInBounds_toArray, List.set_cons_zero, List.set_cons_succ])
  refine wpAnyH_done (by kernel_rfl) ?_ _
  have g5 : W5.cell? ⟨w.heap.size, 5, none⟩ = some (.slice a n c) := K5.cells 5
  have hz5 := K5.lt
  have o5' := o5.mono E3.size
  rw [HSD.out] at o5'
  clear hS hS0 o5 q5 K3 E3 o3 r3
  go_wp2_with (at_builtin; refine Halt.out ?_)
  refine Halt.mk ?_
  refine app rfl _ _ rfl w.heap.size v5 _ rfl o5' a n c b rfl (HR.out.ext E5) (by rw [Pl.head4_length]; omega) (by omega) ?_
  intro v7 W7 o7 b7
  have E7 : Ext w W7 := Below.trans E5 b7
  have HE7 := Lib.hid E7
  have HO7 := Lib.hid o7
  clear E7 o7 b7 g5
  go_wp2_with fail
  go_ret
  refine ⟨_, rfl, ?_, HE7.out⟩
  have hb := HR.out.len
  unfold Pl.enc4
  rw [hb]
  exact HO7.out
end Go.Proofs.YtlgdmipejgggkaaDoor
