/- The document's answers on segments as bytes: SegBytes, CheckOf. Conditions: as each theorem states them. -/
import Derived.Test.YtkjchddidpjjmaaDoorSegE
import Derived.Test.YtkjchddidpjjmaaDoorRef4
namespace Go.Proofs.YtkjchddidpjjmaaDoor
open Go.RowKit
set_option maxRecDepth 100000 in
set_option maxHeartbeats 4000000 in
theorem rsegBytes_any (s : Sg) (a : Option Addr) (n c : Nat) (xs : List Int) (ck : Int) (w : World) (hok : Pl.SegOk s n) (hr : Ints .u8 w a n xs) (hck : 0 ≤ ck ∧ ck ≤ 65535) :
    Calls Tryd.prog 30 #[s.v (.slice a n c), .int .i64 ck] w fun e w' => ∃ v, e = .returned v ∧ Own w' w.heap.size v (Pl.segBytes s ck xs) ∧ Ext w w' := by
  have HL := Lib.hid hr.len
  have HR := Lib.hid hr
  have HW := Lib.hid (Pl.segWords_bd hok hck)
  have K0 := Blk.new w 50 (s.cells (.slice a n c))
  have E0 : Ext w (w.alloc (.cells (s.cells (.slice a n c)) 50)) := (Ext.refl w).alloc _
  obtain ⟨c0, c1, c2, c3, c4, c5, c6, c7⟩ := K0.sg
  obtain ⟨hk, hf, ht, ⟨q0, q1⟩, ⟨m0, m1⟩, ⟨f0, f1⟩, hw, _, hn⟩ := hok
  clear hr hck
  rcases hk with hk | hk
  · have hkb : (s.kind == 17) = false := by rw [hk]; rfl
    have HWD := Lib.hid (show Pl.segWords s n ck = [s.frm, s.to, s.seq / 65536, s.seq % 65536, s.ack / 65536, s.ack % 65536, 20480 + s.flags, s.win, ck, 0] by unfold Pl.segWords; rw [if_neg (by rw [hk]; decide)])
    rw [HWD.out] at HW
    have t1 : IntKind.i64.wrap (s.seq.tdiv 65536) = s.seq / 65536 := by rw [Int.tdiv_eq_ediv_of_nonneg q0]; exact IntWalk.i64_in _ (by omega)
    have t2 : IntKind.i64.wrap (s.seq.tmod 65536) = s.seq % 65536 := by rw [Int.tmod_eq_emod_of_nonneg q0]; exact IntWalk.i64_in _ (by omega)
    have t3 : IntKind.i64.wrap (s.ack.tdiv 65536) = s.ack / 65536 := by rw [Int.tdiv_eq_ediv_of_nonneg m0]; exact IntWalk.i64_in _ (by omega)
    have t4 : IntKind.i64.wrap (s.ack.tmod 65536) = s.ack % 65536 := by rw [Int.tmod_eq_emod_of_nonneg m0]; exact IntWalk.i64_in _ (by omega)
    have t5 : IntKind.i64.wrap (20480 + s.flags) = 20480 + s.flags := IntWalk.i64_in _ (by omega)
    clear hk
    go_enter Tryd.func30, Tryd.ntmps30
    go_wp2_with fail
    refine (rwords_any (w.heap.size + 1) (.slice none 0 0) [] (some ⟨w.heap.size + 1, 0, none⟩) 10 10 [s.frm, s.to, s.seq / 65536, s.seq % 65536, s.ack / 65536, s.ack % 65536, 20480 + s.flags, s.win, ck, 0] _ (Own.nil _ _) (ints_at _ _ _ _ _ rfl (by simp)) HW.out (by simp) (fun k hk => by cases hk) (by simp)).mono ?_
    rintro e W1 ⟨v1, rfl, o1, b1⟩
    rw [List.nil_append, ← HWD.out] at o1
    have K1 := Blk.below (K0.alloc (.cells #[.int .i64 s.frm, .int .i64 s.to, .int .i64 (s.seq / 65536), .int .i64 (s.seq % 65536), .int .i64 (s.ack / 65536), .int .i64 (s.ack % 65536), .int .i64 (20480 + s.flags), .int .i64 s.win, .int .i64 ck, .int .i64 0] 3)) b1 (Nat.lt_succ_self _)
    have E1 : Ext w W1 := Below.trans (E0.alloc (.cells #[.int .i64 s.frm, .int .i64 s.to, .int .i64 (s.seq / 65536), .int .i64 (s.seq % 65536), .int .i64 (s.ack / 65536), .int .i64 (s.ack % 65536), .int .i64 (20480 + s.flags), .int .i64 s.win, .int .i64 ck, .int .i64 0] 3)) (Below.mono b1 (Nat.le_succ _))
    clear c0 c1 c2 c3 c4 c5 c6 c7 K0 E0 b1 t1 t2 t3 t4 t5
    obtain ⟨c0, c1, c2, c3, c4, c5, c6, c7⟩ := K1.sg
    clear c0 c1 c2 c3 c4 c5 c6
    go_wp2_with (at_builtin; refine Halt.out ?_)
    refine Halt.mk ?_
    refine app rfl _ _ rfl (w.heap.size + 1) _ _ rfl o1 a n c xs rfl (HR.out.ext E1) (by rw [Pl.two_length, HWD.out]; simp; omega) (by have := K1.lt; omega) ?_
    intro v5 W5 o5 b5
    have E5 : Ext w W5 := Below.trans E1 (Below.mono b5 (Nat.le_succ _))
    go_wp2_with fail
    go_ret
    refine ⟨_, rfl, ?_, E5⟩
    unfold Pl.segBytes
    rw [HL.out]
    exact o5.mono (Nat.le_succ _)
  · have hkb : (s.kind == 17) = true := by rw [hk]; rfl
    have HWD := Lib.hid (show Pl.segWords s n ck = [s.frm, s.to, 8 + (n : Int), ck] by unfold Pl.segWords; rw [if_pos hk])
    rw [HWD.out] at HW
    have t5 : IntKind.i64.wrap (8 + (n : Int)) = 8 + (n : Int) := IntWalk.i64_in _ (by omega)
    clear hk
    go_enter Tryd.func30, Tryd.ntmps30
    go_wp2_with fail
    refine (rwords_any (w.heap.size + 1) (.slice none 0 0) [] (some ⟨w.heap.size + 1, 0, none⟩) 4 4 [s.frm, s.to, 8 + (n : Int), ck] _ (Own.nil _ _) (ints_at _ _ _ _ _ rfl (by simp)) HW.out (by simp) (fun k hk => by cases hk) (by simp)).mono ?_
    rintro e W1 ⟨v1, rfl, o1, b1⟩
    rw [List.nil_append, ← HWD.out] at o1
    have K1 := Blk.below (K0.alloc (.cells #[.int .i64 s.frm, .int .i64 s.to, .int .i64 (8 + (n : Int)), .int .i64 ck] 3)) b1 (Nat.lt_succ_self _)
    have E1 : Ext w W1 := Below.trans (E0.alloc (.cells #[.int .i64 s.frm, .int .i64 s.to, .int .i64 (8 + (n : Int)), .int .i64 ck] 3)) (Below.mono b1 (Nat.le_succ _))
    clear c0 c1 c2 c3 c4 c5 c6 c7 K0 E0 b1 t5
    obtain ⟨c0, c1, c2, c3, c4, c5, c6, c7⟩ := K1.sg
    clear c0 c1 c2 c3 c4 c5 c6
    go_wp2_with (at_builtin; refine Halt.out ?_)
    refine Halt.mk ?_
    refine app rfl _ _ rfl (w.heap.size + 1) _ _ rfl o1 a n c xs rfl (HR.out.ext E1) (by rw [Pl.two_length, HWD.out]; simp; omega) (by have := K1.lt; omega) ?_
    intro v5 W5 o5 b5
    have E5 : Ext w W5 := Below.trans E1 (Below.mono b5 (Nat.le_succ _))
    go_wp2_with fail
    go_ret
    refine ⟨_, rfl, ?_, E5⟩
    unfold Pl.segBytes
    rw [HL.out]
    exact o5.mono (Nat.le_succ _)

set_option maxRecDepth 100000 in
set_option maxHeartbeats 4000000 in
theorem rcheckOf_any (s : Sg) (a : Option Addr) (n c : Nat) (xs : List Int) (over : Int) (w : World) (hok : Pl.SegOk s n) (hr : Ints .u8 w a n xs) (hb : Pl.IsB xs) (ho : Pl.Word over) :
    Calls Tryd.prog 31 #[s.v (.slice a n c), .int .i64 over] w fun e w' => e = .returned (.int .i64 (Pl.segCheck s over xs)) ∧ Ext w w' := by
  have HL := Lib.hid hr.len
  have HR := Lib.hid hr
  have HB := Lib.hid hb
  have HOK := Lib.hid hok
  have HO := Lib.hid ho
  have K0 := Blk.new w 50 (s.cells (.slice a n c))
  have E0 : Ext w (w.alloc (.cells (s.cells (.slice a n c)) 50)) := (Ext.refl w).alloc _
  have ld := K0.seg
  clear hr hb ho hok
  go_enter Tryd.func31, Tryd.ntmps31
  go_wp2_with ((apply load_by rfl _ _ rfl _ rfl); (focus (with_reducible assumption)))
  refine (rsegBytes_any s a n c xs 0 _ HOK.out (HR.out.ext E0) (by decide)).mono ?_
  rintro e W1 ⟨v1, rfl, o1, q1⟩
  have K1 := K0.ext q1
  have E1 := E0.trans q1
  obtain ⟨a1, n1, c1, rfl, _, r1⟩ := o1.read
  have hok' : Pl.SegOk s xs.length := by rw [HL.out]; exact HOK.out
  have hI1 := Pl.segBytes_isB hok' (c := 0) (by decide) HB.out
  have hn1 : n1 ≤ 65536 := by
    have h1 := r1.len
    have h2 := Pl.segBytes_length (c := 0) (xs := xs) HOK.out.1
    have h3 := HL.out
    have h4 := HOK.out.2.2.2.2.2.2.2.2
    have h5 : Pl.segSize s.kind ≤ 20 := by unfold Pl.segSize; split <;> omega
    omega
  clear ld K0 E0 q1 hok'
  go_wp2_with fail
  refine (sumOf_any _ _ _ _ W1 r1 hI1 hn1).mono ?_
  rintro e w' ⟨rfl, rfl⟩
  have f0 := Pl.fold_lo (Pl.raw 0 (Pl.segBytes s 0 xs))
  have f1 := Pl.fold_hi (Pl.raw 0 (Pl.segBytes s 0 xs))
  obtain ⟨F, hF⟩ : ∃ F, Pl.fold (Pl.raw 0 (Pl.segBytes s 0 xs)) = F := ⟨_, rfl⟩
  rw [hF] at f0 f1 ⊢
  obtain ⟨o0, o1'⟩ := HO.out
  have HF := Lib.hid hF
  clear hF hI1 r1 o1 hn1
  go_wp2_with fail
  refine (rfold_any (over + F) W1 (by omega) (by omega)).mono ?_
  rintro e w' ⟨rfl, rfl⟩
  have hC : Pl.fold (over + F) = 65535 - Pl.segSum s over xs := by unfold Pl.segSum; rw [HF.out]; omega
  rw [hC]
  clear hC
  obtain ⟨b0, b1⟩ := Pl.segSum_bd s over xs
  obtain ⟨C, hCC⟩ : ∃ C, Pl.segSum s over xs = C := ⟨_, rfl⟩
  rw [hCC] at b0 b1 ⊢
  have HCC := Lib.hid hCC
  have e10 : (65535 - (65535 - C)) = C := by omega
  have e8 : IntKind.i64.wrap (65535 - (65535 - C)) = C := by rw [e10]; exact IntWalk.i64_in _ (by omega)
  obtain ⟨c0, c1, c2, c3, c4, c5, c6, c7⟩ := K1.sg
  clear hCC c1 c2 c3 c4 c5 c6 c7
  have hck : Pl.segCheck s over xs = if s.kind = 17 ∧ C = 0 then 65535 else C := by unfold Pl.segCheck; rw [HCC.out]
  rcases HOK.out.1 with hk | hk
  · have hkb : (s.kind == 17) = false := by rw [hk]; rfl
    have HR2 := Lib.hid (show C = Pl.segCheck s over xs by rw [hck, if_neg (by omega)])
    clear hk hck
    go_wp2_with fail
    go_ret
    exact ⟨by rw [← HR2.out]; rfl, E1⟩
  · have hkb : (s.kind == 17) = true := by rw [hk]; rfl
    by_cases hz : C = 0
    · have hzb : (C == 0) = true := by rw [hz]; rfl
      have HR2 := Lib.hid (show (65535 : Int) = Pl.segCheck s over xs by rw [hck, if_pos ⟨hk, hz⟩])
      clear hk hck hz
      go_wp2_with fail
      go_ret
      exact ⟨by rw [← HR2.out]; rfl, E1⟩
    · have hzb : (C == 0) = false := by simpa using hz
      have HR2 := Lib.hid (show C = Pl.segCheck s over xs by rw [hck, if_neg (fun h => hz h.2)])
      clear hk hck hz
      go_wp2_with fail
      go_ret
      exact ⟨by rw [← HR2.out]; rfl, E1⟩
end Go.Proofs.YtkjchddidpjjmaaDoor
