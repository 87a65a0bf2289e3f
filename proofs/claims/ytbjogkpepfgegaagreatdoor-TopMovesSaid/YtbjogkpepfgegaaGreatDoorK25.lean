/- The contracts of seg.two, seg.Head, seg.encode, seg.Encode: the bytes of a segment that may be. Conditions: as each theorem states them. -/
import Derived.Test.YtbjogkpepfgegaaGreatDoorK23
import Derived.Test.YtbjogkpepfgegaaGreatDoorK03
import Derived.Deep.DeepCutAuto
namespace Go.Proofs.YtbjogkpepfgegaaGreatDoor
open Go.RowKit
namespace Pl
/-- The lower two bytes of numbers. -/
def twop (l : List Int) : List Int := l.flatMap fun n => [n / 256 % 256, n % 256]
theorem twop_snoc (l : List Int) (x : Int) : twop (l ++ [x]) = twop l ++ [x / 256 % 256, x % 256] := by simp [twop]
theorem twop_length (l : List Int) : (twop l).length = 2 * l.length := by
  induction l with
  | nil => rfl
  | cons x r ih => unfold twop at *; rw [List.flatMap_cons, List.length_append, ih]; simp; omega
theorem two_cat (l m : List Int) : two l ++ two m = two (l ++ m) := by simp [two]
theorem segHead17 {s : Sg} {n : Nat} (h : SegOk s n) (hk : s.kind = 17) : twop [s.frm, s.to] ++ twop [8 + (n : Int), 0] = two (segWords s n 0) := by
  unfold SegOk Word at h
  obtain ⟨_, hf, ht, _, _, _, _, _, hn⟩ := h
  have e1 : s.frm / 256 % 256 = s.frm / 256 := by omega
  have e2 : s.to / 256 % 256 = s.to / 256 := by omega
  have e3 : (8 + (n : Int)) / 256 % 256 = (8 + (n : Int)) / 256 := by omega
  unfold segWords
  rw [if_pos hk]
  show [s.frm / 256 % 256, s.frm % 256, s.to / 256 % 256, s.to % 256, (8 + (n : Int)) / 256 % 256, (8 + (n : Int)) % 256, 0, 0] = [s.frm / 256, s.frm % 256, s.to / 256, s.to % 256, (8 + (n : Int)) / 256, (8 + (n : Int)) % 256, 0, 0]
  rw [e1, e2, e3]
theorem segHead6 {s : Sg} {n : Nat} (h : SegOk s n) (hk : s.kind = 6) : twop [s.frm, s.to] ++ twop [s.seq / 65536, s.seq, s.ack / 65536, s.ack, 20480 + s.flags, s.win, 0, 0] = two (segWords s n 0) := by
  unfold SegOk Word at h
  obtain ⟨_, hf, ht, hq, ha, hfl, hw, _, hn⟩ := h
  have e1 : s.frm / 256 % 256 = s.frm / 256 := by omega
  have e2 : s.to / 256 % 256 = s.to / 256 := by omega
  have e3 : s.seq / 65536 / 256 % 256 = s.seq / 65536 / 256 := by omega
  have e4 : s.seq / 256 % 256 = s.seq % 65536 / 256 := by omega
  have e5 : s.seq % 256 = s.seq % 65536 % 256 := by omega
  have e6 : s.ack / 65536 / 256 % 256 = s.ack / 65536 / 256 := by omega
  have e7 : s.ack / 256 % 256 = s.ack % 65536 / 256 := by omega
  have e8 : s.ack % 256 = s.ack % 65536 % 256 := by omega
  have e9 : (20480 + s.flags) / 256 % 256 = (20480 + s.flags) / 256 := by omega
  have e10 : s.win / 256 % 256 = s.win / 256 := by omega
  unfold segWords
  rw [if_neg (by rw [hk]; decide)]
  show [s.frm / 256 % 256, s.frm % 256, s.to / 256 % 256, s.to % 256, s.seq / 65536 / 256 % 256, s.seq / 65536 % 256, s.seq / 256 % 256, s.seq % 256, s.ack / 65536 / 256 % 256, s.ack / 65536 % 256, s.ack / 256 % 256, s.ack % 256, (20480 + s.flags) / 256 % 256, (20480 + s.flags) % 256, s.win / 256 % 256, s.win % 256, 0, 0, 0, 0]
     = [s.frm / 256, s.frm % 256, s.to / 256, s.to % 256, s.seq / 65536 / 256, s.seq / 65536 % 256, s.seq % 65536 / 256, s.seq % 65536 % 256, s.ack / 65536 / 256, s.ack / 65536 % 256, s.ack % 65536 / 256, s.ack % 65536 % 256, (20480 + s.flags) / 256, (20480 + s.flags) % 256, s.win / 256, s.win % 256, 0, 0, 0, 0]
  rw [e1, e2, e3, e4, e5, e6, e7, e8, e9, e10]
end Pl

theorem getD_rng {xs : List Int} (h : ∀ x ∈ xs, 0 ≤ x ∧ x < 4294967296) (k : Nat) : 0 ≤ xs.getD k 0 ∧ xs.getD k 0 < 4294967296 := by
  by_cases hk : k < xs.length
  · rw [List.getD_eq_getElem?_getD, List.getElem?_eq_getElem hk]
    exact h _ (List.getElem_mem hk)
  · rw [List.getD_eq_getElem?_getD, List.getElem?_eq_none (by omega)]
    exact ⟨Int.le_refl 0, by decide⟩

set_option maxRecDepth 100000 in
set_option maxHeartbeats 800000 in
theorem two_any (b off n c : Nat) (l : List Int) (w : World) (hl : Ints .i64 w (some ⟨b, off, none⟩) n l) (hw : ∀ x ∈ l, 0 ≤ x ∧ x < 4294967296) (hn0 : 0 < n) (hn : n ≤ 100) :
    Calls Tryz.prog 88 #[.slice (some ⟨b, off, none⟩) n c] w fun e w' => ∃ v, e = .returned v ∧ Own w' w.heap.size v (Pl.twop l) ∧ Ext w w' := by
  have HW := Lib.hid hw
  have HL := Lib.hid hl.len
  have HI := Lib.hid hl
  clear hw hl
  go_enter Tryz.func88, Tryz.ntmps88
  go_wp2_with fail
  go_loopw [3, 8] (fun v i wr => ∃ k : Nat, k ≤ n ∧ i = .int .i64 k ∧ Own wr w.heap.size v (Pl.twop (l.take k)) ∧ Ext w wr) (fun _ i _ => n - (intOf i).toNat)
  case atStart => exact ⟨0, Nat.zero_le _, rfl, Own.nil _ _, Ext.refl _⟩
  case round =>
    obtain ⟨k, hk, rfl, ho, hE⟩ := hrel
    by_cases hlt : k < n
    · obtain ⟨b', off', hbb, _, hc⟩ := (HI.out.ext hE).at (by omega)
      simp only [Option.some.injEq, Addr.mk.injEq, and_true] at hbb
      obtain ⟨rfl, rfl⟩ := hbb
      have HE := Lib.hid hE
      clear hE
      have hcell := hc k hlt
      obtain ⟨b0, b1⟩ := getD_rng HW.out k
      have hsn := Pl.twop_snoc (l.take k) (l.getD k 0)
      rw [← take_snoc l k (by rw [HL.out]; exact hlt)] at hsn
      have hlen := Pl.twop_length (l.take k)
      have hle : (l.take k).length ≤ k := List.length_take_le _ _
      generalize l.getD k 0 = x at hsn hcell b0 b1
      have HS := Lib.hid hsn
      have HLL := Lib.hid hlen
      have HO := Lib.hid ho
      clear hsn hlen hc ho
      have hlt' : (k : Int) < (n : Int) := by omega
      have e1 : IntKind.u8.wrap (x / 256) = x / 256 % 256 := by rw [IntKind.wrap_u8]
      have e2 : IntKind.u8.wrap x = x % 256 := by rw [IntKind.wrap_u8]
      go_wp2_with (at_builtin; refine Halt.out ?_)
      refine Halt.mk ?_
      refine app rfl _ _ rfl w.heap.size _ _ rfl (HO.out.ext (Below.alloc (Below.refl _ _) (Nat.le_refl _) _)) _ _ _ [x / 256 % 256, x % 256] rfl (ints_new wr _ _ _ _ _ rfl) (by rw [HLL.out]; simp; omega) (by have := HE.out.size; simp; omega) ?_
      intro v' W' o' b'
      rw [← HS.out] at o'
      have hE' : Ext w W' := (Below.alloc HE.out HE.out.size _).trans b'
      have HE' := Lib.hid hE'
      clear hE' b' hcell
      go_wp2_with fail
      go_roundw
      case rel => exact ⟨k + 1, by omega, by go_num, o', HE'.out⟩
      case measure => simp [intOf] <;> omega
    · have hrest : l.take k = l := List.take_of_length_le (by rw [HL.out]; omega)
      rw [hrest] at ho
      have hlt' : ¬ (k : Int) < (n : Int) := by omega
      clear hrest
      go_wp2_with fail
      go_ret
      exact ⟨_, rfl, ho, hE⟩
theorem head_any (k : Int) (w : World) (hk : k = 6 ∨ k = 17) : Calls Tryz.prog 73 #[.int .i64 k] w fun e w' => e = .returned (.tuple #[.int .i64 (Pl.segSize k), .int .i64 (Pl.segAt k)]) ∧ w = w' := by
  rcases hk with rfl | rfl
  all_goals
    go_enter Tryz.func73, Tryz.ntmps73
    go_wp2
    go_ret2
    exact ⟨rfl, rfl⟩

theorem add_any (a b : Int) (w : World) (ha : 0 ≤ a ∧ a ≤ 65535) (hb : 0 ≤ b ∧ b ≤ 65535) :
    Calls Tryz.prog 89 #[.int .i64 a, .int .i64 b] w fun e w' => e = .returned (.tuple #[.int .i64 (Pl.fold (a + b)), .nilIface]) ∧ Ext w w' := add_ok a b w ha hb

theorem ints_at {w : World} {n : Nat} (cs : Array Value) (t : TypeId) (m : Nat × Nat) (k : IntKind) (xs : List Int) (h : cs.toList = xs.map (Value.int k)) (hn : w.heap.size = n) : Ints k (w.alloc (.cells cs t m)) (some ⟨n, 0, none⟩) xs.length xs := by
  subst hn
  exact ints_new w cs t m k xs h
set_option maxRecDepth 100000 in
set_option maxHeartbeats 4000000 in
theorem sencode_any (s : Sg) (a : Option Addr) (n c : Nat) (xs : List Int) (over : Int) (w : World) (hok : Pl.SegOk s n) (hr : Ints .u8 w a n xs) (hb : Pl.IsB xs) (ho : Pl.Word over) :
    Calls Tryz.prog 58 #[s.v (.slice a n c), .int .i64 over] w fun e w' => ∃ v, e = .returned v ∧ Own w' w.heap.size v (Pl.segBytes s (Pl.segCheck s over xs) xs) ∧ Ext w w' := by
  have HOK := Lib.hid hok
  have HR := Lib.hid hr
  have HB := Lib.hid hb
  have HO := Lib.hid ho
  have HL := Lib.hid hr.len
  have K0 := Blk.new w 40 (s.cells (.slice a n c))
  have E0 : Ext w (w.alloc (.cells (s.cells (.slice a n c)) 40)) := (Ext.refl w).alloc _
  obtain ⟨c0, c1, c2, c3, c4, c5, c6, c7⟩ := K0.sg
  clear hr hb ho c0 c3 c4 c5 c6 c7 hok
  go_enter Tryz.func58, Tryz.ntmps58
  go_wp2_with fail
  refine (two_any (w.heap.size + 1) 0 2 2 [s.frm, s.to] _ (ints_at _ _ _ _ _ rfl (by simp)) (fun x hx => by have h1 := HOK.out.2.1; have h2 := HOK.out.2.2.1; unfold Pl.Word at h1 h2; simp only [List.mem_cons, List.not_mem_nil, or_false] at hx; rcases hx with rfl | rfl <;> omega) (by omega) (by omega)).mono ?_
  rintro e W1 ⟨v1, rfl, o1, q1⟩
  have K1 := (K0.alloc (.cells #[.int .i64 s.frm, .int .i64 s.to] 3)).ext q1
  have E1 := (E0.alloc (.cells #[.int .i64 s.frm, .int .i64 s.to] 3)).trans q1
  have o1' := o1.mono (B' := w.heap.size + 1) (by simp)
  clear c1 c2 K0 E0 o1 q1
  obtain ⟨c0, c1, c2, c3, c4, c5, c6, c7⟩ := K1.sg
  go_upto_if 18 with (fail)
  go_cut [5] (fun v wc => Own wc (w.heap.size + 1) v (Pl.two (Pl.segWords s n 0)) ∧ Blk wc w.heap.size 40 (s.cells (.slice a n c)) ∧ Ext w wc)
  case first =>
    have hB1 : w.heap.size + 1 ≤ W1.heap.size := by have := K1.lt; omega
    have HK := HOK.out.1
    rcases HK with hk | hk
    · have hkb : (s.kind == 17) = false := by rw [hk]; rfl
      have HH := Lib.hid (Pl.segHead6 HOK.out hk)
      obtain ⟨_, hwf, hwt, ⟨q0, q1⟩, ⟨m0, m1⟩, ⟨f0, f1⟩, hww, _, _⟩ := HOK.out
      obtain ⟨w0, w1⟩ := hww
      have eor : bits .or .i64 20480 s.flags = 20480 + s.flags := or_join 12 20480 s.flags (by omega) (by decide) (by omega) f0 (by omega) (by omega)
      clear hk
      go_wp2_with fail
      refine (two_any W1.heap.size 0 8 8 [s.seq / 65536, s.seq, s.ack / 65536, s.ack, 20480 + s.flags, s.win, 0, 0] _ (ints_at _ _ _ _ _ rfl rfl) (fun x hx => by simp only [List.mem_cons, List.not_mem_nil, or_false] at hx; rcases hx with rfl | rfl | rfl | rfl | rfl | rfl | rfl | rfl <;> omega) (by omega) (by omega)).mono ?_
      rintro e W2 ⟨v2, rfl, o2, q2⟩
      obtain ⟨a2, n2, d2, rfl, _, r2⟩ := o2.read
      obtain rfl : 16 = n2 := r2.len
      have K2 := (K1.alloc (.cells #[.int .i64 (s.seq / 65536), .int .i64 s.seq, .int .i64 (s.ack / 65536), .int .i64 s.ack, .int .i64 (20480 + s.flags), .int .i64 s.win, .int .i64 0, .int .i64 0] 3)).ext q2
      have E2 := (E1.alloc (.cells #[.int .i64 (s.seq / 65536), .int .i64 s.seq, .int .i64 (s.ack / 65536), .int .i64 s.ack, .int .i64 (20480 + s.flags), .int .i64 s.win, .int .i64 0, .int .i64 0] 3)).trans q2
      have o3 := (o1'.ext ((Ext.refl W1).alloc (.cells #[.int .i64 (s.seq / 65536), .int .i64 s.seq, .int .i64 (s.ack / 65536), .int .i64 s.ack, .int .i64 (20480 + s.flags), .int .i64 s.win, .int .i64 0, .int .i64 0] 3))).ext q2
      clear c0 c1 c2 c3 c4 c5 c6 c7 o2
      go_wp2_with (at_builtin; refine Halt.out ?_)
      refine Halt.mk ?_
      refine app rfl _ _ rfl (w.heap.size + 1) _ _ rfl o3 a2 16 d2 _ rfl r2 (by simp [Pl.twop]) (by have := K2.lt; omega) ?_
      intro v4 W4 o4 b4
      rw [HH.out] at o4
      go_wp2_with fail
      go_meet
      exact ⟨o4, Blk.below K2 b4 (Nat.lt_succ_self _), Below.trans E2 (Below.mono b4 (Nat.le_succ _))⟩
    · have hkb : (s.kind == 17) = true := by rw [hk]; rfl
      have HH := Lib.hid (Pl.segHead17 HOK.out hk)
      have hn := HOK.out.2.2.2.2.2.2.2.2
      have e8 : IntKind.i64.wrap (8 + (n : Int)) = 8 + (n : Int) := IntWalk.i64_in _ (by omega)
      clear hk
      go_wp2_with fail
      refine (two_any W1.heap.size 0 2 2 [8 + (n : Int), 0] _ (ints_at _ _ _ _ _ rfl rfl) (fun x hx => by simp only [List.mem_cons, List.not_mem_nil, or_false] at hx; rcases hx with rfl | rfl <;> omega) (by omega) (by omega)).mono ?_
      rintro e W2 ⟨v2, rfl, o2, q2⟩
      obtain ⟨a2, n2, d2, rfl, _, r2⟩ := o2.read
      obtain rfl : 4 = n2 := r2.len
      have K2 := (K1.alloc (.cells #[.int .i64 (8 + (n : Int)), .int .i64 0] 3)).ext q2
      have E2 := (E1.alloc (.cells #[.int .i64 (8 + (n : Int)), .int .i64 0] 3)).trans q2
      have o3 := (o1'.ext ((Ext.refl W1).alloc (.cells #[.int .i64 (8 + (n : Int)), .int .i64 0] 3))).ext q2
      clear c0 c1 c2 c3 c4 c5 c6 c7 o2
      go_wp2_with (at_builtin; refine Halt.out ?_)
      refine Halt.mk ?_
      refine app rfl _ _ rfl (w.heap.size + 1) _ _ rfl o3 a2 4 d2 _ rfl r2 (by simp [Pl.twop]) (by have := K2.lt; omega) ?_
      intro v4 W4 o4 b4
      rw [HH.out] at o4
      go_wp2_with fail
      go_meet
      exact ⟨o4, Blk.below K2 b4 (Nat.lt_succ_self _), Below.trans E2 (Below.mono b4 (Nat.le_succ _))⟩
  obtain ⟨o4, K4, E4⟩ := hcut
  clear c0 c1 c2 c3 c4 c5 c6 c7 o1' K1 E1
  obtain ⟨c0, c1, c2, c3, c4, c5, c6, c7⟩ := K4.sg
  clear c1 c2 c3 c4 c5 c6
  have hlen : (Pl.two (Pl.segWords s n 0)).length ≤ 20 := by
    rw [Pl.two_length]
    unfold Pl.segWords
    split <;> simp
  have HLE := Lib.hid hlen
  clear hlen
  go_wp2_with (at_builtin; refine Halt.out ?_)
  refine Halt.mk ?_
  refine app rfl _ _ rfl (w.heap.size + 1) _ _ rfl o4 a n c xs rfl (HR.out.ext E4) (by have := HLE.out; have := HOK.out.2.2.2.2.2.2.2.2; omega) (by have := K4.lt; omega) ?_
  intro v5 W5 o5 b5
  have hS : Pl.two (Pl.segWords s n 0) ++ xs = Pl.segBytes s 0 xs := by unfold Pl.segBytes; rw [HL.out]
  rw [hS] at o5
  have K5 := Blk.below K4 b5 (Nat.lt_succ_self _)
  have E5 : Ext w W5 := Below.trans E4 (Below.mono b5 (Nat.le_succ _))
  have hn := HOK.out.2.2.2.2.2.2.2.2
  have hok' : Pl.SegOk s xs.length := by rw [HL.out]; exact HOK.out
  have hI5 : Pl.IsB (Pl.segBytes s 0 xs) := Pl.segBytes_isB hok' (by decide) HB.out
  have hL5 := Pl.segBytes_length (c := 0) (xs := xs) HOK.out.1
  have hsz : Pl.segSize s.kind ≤ 20 ∧ Pl.segAt s.kind + 2 ≤ Pl.segSize s.kind := by
    unfold Pl.segSize Pl.segAt
    split <;> omega
  rw [HL.out] at hL5
  obtain ⟨gg, nn, cc, rfl, hnn, hcc, hg0, hg1, hcell, hfr⟩ := o5.shape (by omega)
  obtain ⟨pa, na, ca, hpa, _, r5⟩ := o5.read
  cases hpa
  have HNN := Lib.hid hnn
  have HL5 := Lib.hid hL5
  have HII := Lib.hid hI5
  have HOK' := Lib.hid hok'
  have hnn1 : nn ≤ 65536 := by omega
  have hnn2 : Pl.segAt s.kind + 2 ≤ nn := by omega
  have hcA := hcell (Pl.segAt s.kind) (by omega)
  have hcB := hcell (Pl.segAt s.kind + 1) (by omega)
  have hfA := hfr (Pl.segAt s.kind)
  have hfB := hfr (Pl.segAt s.kind + 1)
  clear c0 c7 o4 K4 E4 b5 hS hcell hfr hI5 hok' hL5 hnn hsz
  obtain ⟨c0, c1, c2, c3, c4, c5, c6, c7⟩ := K5.sg
  clear c1 c2 c3 c4 c5 c6 c7
  go_wp2_with fail
  refine (raw_any _ _ _ _ W5 r5 HII.out hnn1).mono ?_
  rintro e w' ⟨rfl, rfl⟩
  go_wp2_with fail
  refine (add_any over _ W5 HO.out ⟨Pl.fold_lo _, Pl.fold_hi _⟩).mono ?_
  rintro e W6 ⟨rfl, q6⟩
  have hC : Pl.fold (over + Pl.fold (Pl.raw 0 (Pl.segBytes s 0 xs))) = 65535 - Pl.segSum s over xs := by unfold Pl.segSum; omega
  rw [hC]
  clear hC
  have K6 := K5.ext q6
  have E6 := E5.trans q6
  have o6 := o5.ext q6
  have hA6 := (World.cell?_of_block (a := ⟨gg, Pl.segAt s.kind, none⟩) (Below.block q6 gg hg1)).trans hcA
  have hB6 := (World.cell?_of_block (a := ⟨gg, Pl.segAt s.kind + 1, none⟩) (Below.block q6 gg hg1)).trans hcB
  have gA6 := (Below.frozen q6 (p := ⟨gg, Pl.segAt s.kind, none⟩) hg1).trans hfA
  have gB6 := (Below.frozen q6 (p := ⟨gg, Pl.segAt s.kind + 1, none⟩) hg1).trans hfB
  have hz6 := q6.size
  clear c0 o5 r5 hcA hcB hfA hfB K5 E5 q6
  obtain ⟨c0, c1, c2, c3, c4, c5, c6, c7⟩ := K6.sg
  clear c1 c2 c3 c4 c5 c6 c7
  obtain ⟨b0, b1⟩ := Pl.segSum_bd s over xs
  obtain ⟨C, hCC⟩ : ∃ C, Pl.segSum s over xs = C := ⟨_, rfl⟩
  rw [hCC] at b0 b1 ⊢
  have HCC := Lib.hid hCC
  have e10 : (65535 - (65535 - C)) = C := by omega
  have e8 : IntKind.i64.wrap (65535 - (65535 - C)) = C := by rw [e10]; exact IntWalk.i64_in _ (by omega)
  clear hCC
  obtain ⟨Z, hZ⟩ : ∃ Z, decide (s.kind = 17 ∧ C = 0) = Z := ⟨_, rfl⟩
  have HZ := Lib.hid hZ
  clear hZ
  go_upto_region 8 with (fail)
  go_cut [65] (fun b wc => W6 = wc ∧ b = .bool Z)
  case first =>
    rcases HOK.out.1 with hk | hk
    · have hkb : (s.kind == 17) = false := by rw [hk]; rfl
      have HR2 := Lib.hid (show false = Z by rw [← HZ.out, decide_eq_false (by omega)])
      clear hk
      go_wp2_with fail
      go_meet
      exact ⟨rfl, by rw [HR2.out]⟩
    · have hkb : (s.kind == 17) = true := by rw [hk]; rfl
      by_cases hz : C = 0
      · have hzb : (C == 0) = true := by rw [hz]; rfl
        have HR2 := Lib.hid (show true = Z by rw [← HZ.out, decide_eq_true ⟨hk, hz⟩])
        clear hk hz
        go_wp2_with fail
        go_meet
        exact ⟨rfl, by rw [HR2.out]⟩
      · have hzb : (C == 0) = false := by simpa using hz
        have HR2 := Lib.hid (show false = Z by rw [← HZ.out, decide_eq_false (fun h => hz h.2)])
        clear hk hz
        go_wp2_with fail
        go_meet
        exact ⟨rfl, by rw [HR2.out]⟩
  obtain ⟨rfl, rfl⟩ := hcut
  go_upto_if 65 with (fail)
  go_cut [6] (fun m wc => W6 = wc ∧ m = .int .i64 (Pl.segCheck s over xs))
  case first =>
    have hck : Pl.segCheck s over xs = if s.kind = 17 ∧ C = 0 then 65535 else C := by unfold Pl.segCheck; rw [HCC.out]
    cases Z
    · have HR2 := Lib.hid (show C = Pl.segCheck s over xs by rw [hck, if_neg (of_decide_eq_false HZ.out)])
      clear hck
      go_wp2_with fail
      go_meet
      exact ⟨rfl, by rw [HR2.out]⟩
    · have HR2 := Lib.hid (show (65535 : Int) = Pl.segCheck s over xs by rw [hck, if_pos (of_decide_eq_true HZ.out)])
      clear hck
      go_wp2_with fail
      go_meet
      exact ⟨rfl, by rw [HR2.out]⟩
  obtain ⟨rfl, rfl⟩ := hcut
  obtain ⟨k0, k1⟩ := Pl.segCheck_bd s over xs
  have HSET := Lib.hid (Pl.segBytes_set s (Pl.segCheck s over xs) xs HOK.out.1)
  obtain ⟨D, hD⟩ : ∃ D, Pl.segCheck s over xs = D := ⟨_, rfl⟩
  rw [hD] at k0 k1 HSET ⊢
  have HD := Lib.hid hD
  clear hD
  have HKK := Lib.hid HOK.out.1
  clear e8 e10 b0 b1 HCC
  go_wp2_with fail
  refine (head_any s.kind W6 HKK.out).mono ?_
  rintro e w' ⟨rfl, rfl⟩
  generalize Pl.segAt s.kind = J at *
  have w1 : IntKind.i64.wrap ((J : Int) + 1) = (J : Int) + 1 := IntWalk.i64_in _ (by omega)
  have w2 : ((J : Int) + 1).toNat = J + 1 := by omega
  have w3 : (J : Int) < (nn : Int) := by omega
  have w4 : (J : Int) + 1 < (nn : Int) := by omega
  have e1 : IntKind.u8.wrap (D / 256) = D / 256 := IntWalk.u8_in _ (by omega)
  have e2 : IntKind.u8.wrap D = D % 256 := by rw [IntKind.wrap_u8]
  clear c0
  go_wp2_with fail
  go_ret
  have o7 := (o6.store J (D / 256)).store (J + 1) (D % 256)
  rw [HSET.out, show Pl.segBytes s D xs = Pl.segBytes s (Pl.segCheck s over xs) xs by rw [HD.out]] at o7
  exact ⟨_, rfl, o7.mono (Nat.le_succ _), (E6.set (p := ⟨gg, J, none⟩) (by show w.heap.size ≤ gg; omega) _).set (p := ⟨gg, J + 1, none⟩) (by show w.heap.size ≤ gg; omega) _⟩

/-- What Encode gives: the fault. -/
def Pl.encF (s : Sg) (over : Int) (n : Nat) : Int := if Pl.segFault s n ≠ 0 then Pl.segFault s n else if Pl.Word over then 0 else 1
def Pl.encB (s : Sg) (over : Int) (xs : List Int) : List Int := if Pl.encF s over xs.length = 0 then Pl.segBytes s (Pl.segCheck s over xs) xs else []
theorem Pl.encF_zero {s : Sg} {over : Int} {n : Nat} (h : Pl.encF s over n = 0) : Pl.SegOk s n ∧ Pl.Word over := by
  unfold Pl.encF at h
  split at h
  · rename_i h1; exact absurd h h1
  rename_i h1
  split at h
  · rename_i h2; exact ⟨Pl.segOk_of (Decidable.byContradiction h1), h2⟩
  · cases h
theorem Pl.encF_ok {s : Sg} {over : Int} {n : Nat} (h : Pl.SegOk s n) (ho : Pl.Word over) : Pl.encF s over n = 0 := by
  unfold Pl.encF
  rw [if_neg (by simpa using Pl.segOk_to h), if_pos ho]
set_option maxRecDepth 100000 in
set_option maxHeartbeats 4000000 in
theorem sEncode_any (s : Sg) (a : Option Addr) (n c : Nat) (xs : List Int) (over : Int) (w : World) (hr : Ints .u8 w a n xs) (hb : Pl.IsB xs) :
    Calls Tryz.prog 25 #[s.v (.slice a n c), .int .i64 over] w fun e w' => ∃ v, e = .returned (.tuple #[v, erv (Pl.encF s over xs.length)]) ∧ Own w' w.heap.size v (Pl.encB s over xs) ∧ Ext w w' := by
  have HR := Lib.hid hr
  have HB := Lib.hid hb
  have HL := Lib.hid hr.len
  have K0 := Blk.new w 40 (s.cells (.slice a n c))
  have E0 : Ext w (w.alloc (.cells (s.cells (.slice a n c)) 40)) := (Ext.refl w).alloc _
  have ld := K0.seg
  clear hr hb
  go_enter Tryz.func25, Tryz.ntmps25
  go_wp2_with ((apply load_by rfl _ _ rfl _ rfl); (focus (with_reducible assumption)))
  refine (scheck_any s a n c _).mono ?_
  rintro e W1 ⟨he, q1⟩
  unfold SegChk at he
  subst he
  have K1 := K0.ext q1
  have E1 := E0.trans q1
  clear ld K0 E0 q1
  by_cases hf : Pl.segFault s n = 0
  case neg =>
    have HF := Lib.hid (show Pl.encF s over xs.length = Pl.segFault s n by unfold Pl.encF; rw [HL.out, if_pos hf])
    have HBB := Lib.hid (show Pl.encB s over xs = [] by unfold Pl.encB; rw [HF.out, if_neg hf])
    rw [errOf_ne hf]
    have HN := Lib.hid hf
    unfold errv
    clear hf
    go_wp2_with fail
    go_ret2
    exact ⟨_, by rw [HF.out, erv_ne HN.out]; rfl, by rw [HBB.out]; exact Own.nil _ _, E1⟩
  rw [hf, errOf_zero]
  have HF := Lib.hid hf
  clear hf
  by_cases ho : Pl.Word over
  case neg =>
    have HE := Lib.hid (show Pl.encF s over xs.length = 1 by unfold Pl.encF; rw [HL.out, HF.out, if_neg (by simp), if_neg ho])
    have HBB := Lib.hid (show Pl.encB s over xs = [] by unfold Pl.encB; rw [HE.out, if_neg (by decide)])
    have HO := Lib.hid ho
    clear ho
    go_wp2_with fail
    refine (sword_no over W1 HO.out).mono ?_
    rintro e w' ⟨rfl, rfl⟩
    go_wp2_with fail
    go_ret2
    exact ⟨_, by rw [HE.out]; rfl, by rw [HBB.out]; exact Own.nil _ _, E1⟩
  have HE := Lib.hid (show Pl.encF s over xs.length = 0 by unfold Pl.encF; rw [HL.out, HF.out, if_neg (by simp), if_pos ho])
  have HBB := Lib.hid (show Pl.encB s over xs = Pl.segBytes s (Pl.segCheck s over xs) xs by unfold Pl.encB; rw [HE.out, if_pos rfl])
  have HO := Lib.hid ho
  clear ho
  go_wp2_with fail
  refine (sword_yes over W1 HO.out).mono ?_
  rintro e w' ⟨rfl, rfl⟩
  have ld := K1.seg
  go_wp2_with ((apply load_by rfl _ _ rfl _ rfl); (focus (with_reducible assumption)))
  refine (sencode_any s a n c xs over W1 (Pl.segOk_of HF.out) (HR.out.ext E1) HB.out HO.out).mono ?_
  rintro e W2 ⟨v2, rfl, o2, q2⟩
  go_wp2_with fail
  go_ret2
  exact ⟨_, by rw [HE.out]; rfl, by rw [HBB.out]; exact o2.mono E1.size, E1.trans q2⟩
end Go.Proofs.YtbjogkpepfgegaaGreatDoor
