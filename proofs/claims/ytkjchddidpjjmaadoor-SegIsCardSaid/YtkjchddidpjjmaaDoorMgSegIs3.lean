/- Texts of this seat in one file (SegE, PickPl, Mix, Shift, Copy, SegD, Ip6k): contracts and plain laws. Conditions: as each lemma states them. -/
import Derived.Test.YtkjchddidpjjmaaDoorMgSegIs1
import Derived.Test.YtkjchddidpjjmaaDoorMgSegIs2
import Derived.Deep.DeepCutAuto
import Derived.KernelRfl
import Derived.Laws.CopyOwn
import Derived.Deep.RegionLaw
import Derived.Deep.RegionHeld3
/- The contracts of seg.two, seg.Head, seg.encode, seg.Encode: the bytes of a segment that may be. Conditions: as each theorem states them. -/
namespace Go.Proofs.YtkjchddidpjjmaaDoor
open Go.RowKit
namespace Pl
/-- The lower two bytes of numbers. -/
def twop (l : List Int) : List Int := l.flatMap fun n => [n / 256 % 256, n % 256]
theorem twop_snoc (l : List Int) (x : Int) : twop (l ++ [x]) = twop l ++ [x / 256 % 256, x % 256] := by simp [twop]
theorem twop_length (l : List Int) : (twop l).length = 2 * l.length := by
  induction l with
  | nil => rfl
  | cons x r ih => unfold twop at *; rw [List.flatMap_cons, List.length_append, ih]; simp; omega
theorem two_cat (l m : List Int) : two l ++ two m = two (l ++ m) := by simp [two]
theorem segHead17 {s : Sg} {n : Nat} (h : SegOk s n) (hk : s.kind = 17) : twop [s.frm, s.to] ++ twop [8 + (n : Int), 0] = two (segWords s n 0) := by
  unfold SegOk Word at h
  obtain ⟨_, hf, ht, _, _, _, _, _, hn⟩ := h
  have e1 : s.frm / 256 % 256 = s.frm / 256 := by omega
  have e2 : s.to / 256 % 256 = s.to / 256 := by omega
  have e3 : (8 + (n : Int)) / 256 % 256 = (8 + (n : Int)) / 256 := by omega
  unfold segWords
  rw [if_pos hk]
  show [s.frm / 256 % 256, s.frm % 256, s.to / 256 % 256, s.to % 256, (8 + (n : Int)) / 256 % 256, (8 + (n : Int)) % 256, 0, 0] = [s.frm / 256, s.frm % 256, s.to / 256, s.to % 256, (8 + (n : Int)) / 256, (8 + (n : Int)) % 256, 0, 0]
  rw [e1, e2, e3]
theorem segHead6 {s : Sg} {n : Nat} (h : SegOk s n) (hk : s.kind = 6) : twop [s.frm, s.to] ++ twop [s.seq / 65536, s.seq, s.ack / 65536, s.ack, 20480 + s.flags, s.win, 0, 0] = two (segWords s n 0) := by
  unfold SegOk Word at h
  obtain ⟨_, hf, ht, hq, ha, hfl, hw, _, hn⟩ := h
  have e1 : s.frm / 256 % 256 = s.frm / 256 := by omega
  have e2 : s.to / 256 % 256 = s.to / 256 := by omega
  have e3 : s.seq / 65536 / 256 % 256 = s.seq / 65536 / 256 := by omega
  have e4 : s.seq / 256 % 256 = s.seq % 65536 / 256 := by omega
  have e5 : s.seq % 256 = s.seq % 65536 % 256 := by omega
  have e6 : s.ack / 65536 / 256 % 256 = s.ack / 65536 / 256 := by omega
  have e7 : s.ack / 256 % 256 = s.ack % 65536 / 256 := by omega
  have e8 : s.ack % 256 = s.ack % 65536 % 256 := by omega
  have e9 : (20480 + s.flags) / 256 % 256 = (20480 + s.flags) / 256 := by omega
  have e10 : s.win / 256 % 256 = s.win / 256 := by omega
  unfold segWords
  rw [if_neg (by rw [hk]; decide)]
  show [s.frm / 256 % 256, s.frm % 256, s.to / 256 % 256, s.to % 256, s.seq / 65536 / 256 % 256, s.seq / 65536 % 256, s.seq / 256 % 256, s.seq % 256, s.ack / 65536 / 256 % 256, s.ack / 65536 % 256, s.ack / 256 % 256, s.ack % 256, (20480 + s.flags) / 256 % 256, (20480 + s.flags) % 256, s.win / 256 % 256, s.win % 256, 0, 0, 0, 0]
     = [s.frm / 256, s.frm % 256, s.to / 256, s.to % 256, s.seq / 65536 / 256, s.seq / 65536 % 256, s.seq % 65536 / 256, s.seq % 65536 % 256, s.ack / 65536 / 256, s.ack / 65536 % 256, s.ack % 65536 / 256, s.ack % 65536 % 256, (20480 + s.flags) / 256, (20480 + s.flags) % 256, s.win / 256, s.win % 256, 0, 0, 0, 0]
  rw [e1, e2, e3, e4, e5, e6, e7, e8, e9, e10]
end Pl

theorem getD_rng {xs : List Int} (h : ∀ x ∈ xs, 0 ≤ x ∧ x < 4294967296) (k : Nat) : 0 ≤ xs.getD k 0 ∧ xs.getD k 0 < 4294967296 := by
  by_cases hk : k < xs.length
  · rw [List.getD_eq_getElem?_getD, List.getElem?_eq_getElem hk]
    exact h _ (List.getElem_mem hk)
  · rw [List.getD_eq_getElem?_getD, List.getElem?_eq_none (by omega)]
    exact ⟨Int.le_refl 0, by decide⟩

set_option maxRecDepth 100000 in
set_option maxHeartbeats 800000 in
theorem two_any (b off n c : Nat) (l : List Int) (w : World) (hl : Ints .i64 w (some ⟨b, off, none⟩) n l) (hw : ∀ x ∈ l, 0 ≤ x ∧ x < 4294967296) (hn0 : 0 < n) (hn : n ≤ 100) :
    Calls Tryd.prog 93 #[.slice (some ⟨b, off, none⟩) n c] w fun e w' => ∃ v, e = .returned v ∧ Own w' w.heap.size v (Pl.twop l) ∧ Ext w w' := by
  have HW := Lib.hid hw
  have HL := Lib.hid hl.len
  have HI := Lib.hid hl
  clear hw hl
  go_enter Tryd.func93, Tryd.ntmps93
  go_wp2_with fail
  go_loopw [3, 8] (fun v i wr => ∃ k : Nat, k ≤ n ∧ i = .int .i64 k ∧ Own wr w.heap.size v (Pl.twop (l.take k)) ∧ Ext w wr) (fun _ i _ => n - (intOf i).toNat)
  case atStart => exact ⟨0, Nat.zero_le _, rfl, Own.nil _ _, Ext.refl _⟩
  case round =>
    obtain ⟨k, hk, rfl, ho, hE⟩ := hrel
    by_cases hlt : k < n
    · obtain ⟨b', off', hbb, _, hc⟩ := (HI.out.ext hE).at (by omega)
      simp only [Option.some.injEq, Addr.mk.injEq, and_true] at hbb
      obtain ⟨rfl, rfl⟩ := hbb
      have HE := Lib.hid hE
      clear hE
      have hcell := hc k hlt
      obtain ⟨b0, b1⟩ := getD_rng HW.out k
      have hsn := Pl.twop_snoc (l.take k) (l.getD k 0)
      rw [← take_snoc l k (by rw [HL.out]; exact hlt)] at hsn
      have hlen := Pl.twop_length (l.take k)
      have hle : (l.take k).length ≤ k := List.length_take_le _ _
      generalize l.getD k 0 = x at hsn hcell b0 b1
      have HS := Lib.hid hsn
      have HLL := Lib.hid hlen
      have HO := Lib.hid ho
      clear hsn hlen hc ho
      have hlt' : (k : Int) < (n : Int) := by omega
      have e1 : IntKind.u8.wrap (x / 256) = x / 256 % 256 := by rw [IntKind.wrap_u8]
      have e2 : IntKind.u8.wrap x = x % 256 := by rw [IntKind.wrap_u8]
      go_wp2_with (at_builtin; refine Halt.out ?_)
      refine Halt.mk ?_
      refine app rfl _ _ rfl w.heap.size _ _ rfl (HO.out.ext (Below.alloc (Below.refl _ _) (Nat.le_refl _) _)) _ _ _ [x / 256 % 256, x % 256] rfl (ints_new wr _ _ _ _ _ rfl) (by rw [HLL.out]; simp; omega) (by have := HE.out.size; simp; omega) ?_
      intro v' W' o' b'
      rw [← HS.out] at o'
      have hE' : Ext w W' := (Below.alloc HE.out HE.out.size _).trans b'
      have HE' := Lib.hid hE'
      clear hE' b' hcell
      go_wp2_with fail
      go_roundw
      case rel => exact ⟨k + 1, by omega, by go_num, o', HE'.out⟩
      case measure => simp [intOf] <;> omega
    · have hrest : l.take k = l := List.take_of_length_le (by rw [HL.out]; omega)
      rw [hrest] at ho
      have hlt' : ¬ (k : Int) < (n : Int) := by omega
      clear hrest
      go_wp2_with fail
      go_ret
      exact ⟨_, rfl, ho, hE⟩
theorem head_any (k : Int) (w : World) (hk : k = 6 ∨ k = 17) : Calls Tryd.prog 69 #[.int .i64 k] w fun e w' => e = .returned (.tuple #[.int .i64 (Pl.segSize k), .int .i64 (Pl.segAt k)]) ∧ w = w' := by
  rcases hk with rfl | rfl
  all_goals
    go_enter Tryd.func69, Tryd.ntmps69
    go_wp2
    go_ret2
    exact ⟨rfl, rfl⟩

theorem add_any (a b : Int) (w : World) (ha : 0 ≤ a ∧ a ≤ 65535) (hb : 0 ≤ b ∧ b ≤ 65535) :
    Calls Tryd.prog 36 #[.int .i64 a, .int .i64 b] w fun e w' => e = .returned (.tuple #[.int .i64 (Pl.fold (a + b)), .nilIface]) ∧ Ext w w' := add_ok a b w ha hb

theorem ints_at {w : World} {n : Nat} (cs : Array Value) (t : TypeId) (m : Nat × Nat) (k : IntKind) (xs : List Int) (h : cs.toList = xs.map (Value.int k)) (hn : w.heap.size = n) : Ints k (w.alloc (.cells cs t m)) (some ⟨n, 0, none⟩) xs.length xs := by
  subst hn
  exact ints_new w cs t m k xs h
set_option maxRecDepth 100000 in
set_option maxHeartbeats 4000000 in
theorem sencode_any (s : Sg) (a : Option Addr) (n c : Nat) (xs : List Int) (over : Int) (w : World) (hok : Pl.SegOk s n) (hr : Ints .u8 w a n xs) (hb : Pl.IsB xs) (ho : Pl.Word over) :
    Calls Tryd.prog 67 #[s.v (.slice a n c), .int .i64 over] w fun e w' => ∃ v, e = .returned v ∧ Own w' w.heap.size v (Pl.segBytes s (Pl.segCheck s over xs) xs) ∧ Ext w w' := by
  have HOK := Lib.hid hok
  have HR := Lib.hid hr
  have HB := Lib.hid hb
  have HO := Lib.hid ho
  have HL := Lib.hid hr.len
  have K0 := Blk.new w 50 (s.cells (.slice a n c))
  have E0 : Ext w (w.alloc (.cells (s.cells (.slice a n c)) 50)) := (Ext.refl w).alloc _
  obtain ⟨c0, c1, c2, c3, c4, c5, c6, c7⟩ := K0.sg
  clear hr hb ho c0 c3 c4 c5 c6 c7 hok
  go_enter Tryd.func67, Tryd.ntmps67
  go_wp2_with fail
  refine (two_any (w.heap.size + 1) 0 2 2 [s.frm, s.to] _ (ints_at _ _ _ _ _ rfl (by simp)) (fun x hx => by have h1 := HOK.out.2.1; have h2 := HOK.out.2.2.1; unfold Pl.Word at h1 h2; simp only [List.mem_cons, List.not_mem_nil, or_false] at hx; rcases hx with rfl | rfl <;> omega) (by omega) (by omega)).mono ?_
  rintro e W1 ⟨v1, rfl, o1, q1⟩
  have K1 := (K0.alloc (.cells #[.int .i64 s.frm, .int .i64 s.to] 3)).ext q1
  have E1 := (E0.alloc (.cells #[.int .i64 s.frm, .int .i64 s.to] 3)).trans q1
  have o1' := o1.mono (B' := w.heap.size + 1) (by simp)
  clear c1 c2 K0 E0 o1 q1
  obtain ⟨c0, c1, c2, c3, c4, c5, c6, c7⟩ := K1.sg
  go_upto_if 18 with (fail)
  go_cut [5] (fun v wc => Own wc (w.heap.size + 1) v (Pl.two (Pl.segWords s n 0)) ∧ Blk wc w.heap.size 50 (s.cells (.slice a n c)) ∧ Ext w wc)
  case first =>
    have hB1 : w.heap.size + 1 ≤ W1.heap.size := by have := K1.lt; omega
    have HK := HOK.out.1
    rcases HK with hk | hk
    · have hkb : (s.kind == 17) = false := by rw [hk]; rfl
      have HH := Lib.hid (Pl.segHead6 HOK.out hk)
      obtain ⟨_, hwf, hwt, ⟨q0, q1⟩, ⟨m0, m1⟩, ⟨f0, f1⟩, hww, _, _⟩ := HOK.out
      obtain ⟨w0, w1⟩ := hww
      have eor : bits .or .i64 20480 s.flags = 20480 + s.flags := or_join 12 20480 s.flags (by omega) (by decide) (by omega) f0 (by omega) (by omega)
      clear hk
      go_wp2_with fail
      refine (two_any W1.heap.size 0 8 8 [s.seq / 65536, s.seq, s.ack / 65536, s.ack, 20480 + s.flags, s.win, 0, 0] _ (ints_at _ _ _ _ _ rfl rfl) (fun x hx => by simp only [List.mem_cons, List.not_mem_nil, or_false] at hx; rcases hx with rfl | rfl | rfl | rfl | rfl | rfl | rfl | rfl <;> omega) (by omega) (by omega)).mono ?_
      rintro e W2 ⟨v2, rfl, o2, q2⟩
      obtain ⟨a2, n2, d2, rfl, _, r2⟩ := o2.read
      obtain rfl : 16 = n2 := r2.len
      have K2 := (K1.alloc (.cells #[.int .i64 (s.seq / 65536), .int .i64 s.seq, .int .i64 (s.ack / 65536), .int .i64 s.ack, .int .i64 (20480 + s.flags), .int .i64 s.win, .int .i64 0, .int .i64 0] 3)).ext q2
      have E2 := (E1.alloc (.cells #[.int .i64 (s.seq / 65536), .int .i64 s.seq, .int .i64 (s.ack / 65536), .int .i64 s.ack, .int .i64 (20480 + s.flags), .int .i64 s.win, .int .i64 0, .int .i64 0] 3)).trans q2
      have o3 := (o1'.ext ((Ext.refl W1).alloc (.cells #[.int .i64 (s.seq / 65536), .int .i64 s.seq, .int .i64 (s.ack / 65536), .int .i64 s.ack, .int .i64 (20480 + s.flags), .int .i64 s.win, .int .i64 0, .int .i64 0] 3))).ext q2
      clear c0 c1 c2 c3 c4 c5 c6 c7 o2
      go_wp2_with (at_builtin; refine Halt.out ?_)
      refine Halt.mk ?_
      refine app rfl _ _ rfl (w.heap.size + 1) _ _ rfl o3 a2 16 d2 _ rfl r2 (by simp [Pl.twop]) (by have := K2.lt; omega) ?_
      intro v4 W4 o4 b4
      rw [HH.out] at o4
      go_wp2_with fail
      go_meet
      exact ⟨o4, Blk.below K2 b4 (Nat.lt_succ_self _), Below.trans E2 (Below.mono b4 (Nat.le_succ _))⟩
    · have hkb : (s.kind == 17) = true := by rw [hk]; rfl
      have HH := Lib.hid (Pl.segHead17 HOK.out hk)
      have hn := HOK.out.2.2.2.2.2.2.2.2
      have e8 : IntKind.i64.wrap (8 + (n : Int)) = 8 + (n : Int) := IntWalk.i64_in _ (by omega)
      clear hk
      go_wp2_with fail
      refine (two_any W1.heap.size 0 2 2 [8 + (n : Int), 0] _ (ints_at _ _ _ _ _ rfl rfl) (fun x hx => by simp only [List.mem_cons, List.not_mem_nil, or_false] at hx; rcases hx with rfl | rfl <;> omega) (by omega) (by omega)).mono ?_
      rintro e W2 ⟨v2, rfl, o2, q2⟩
      obtain ⟨a2, n2, d2, rfl, _, r2⟩ := o2.read
      obtain rfl : 4 = n2 := r2.len
      have K2 := (K1.alloc (.cells #[.int .i64 (8 + (n : Int)), .int .i64 0] 3)).ext q2
      have E2 := (E1.alloc (.cells #[.int .i64 (8 + (n : Int)), .int .i64 0] 3)).trans q2
      have o3 := (o1'.ext ((Ext.refl W1).alloc (.cells #[.int .i64 (8 + (n : Int)), .int .i64 0] 3))).ext q2
      clear c0 c1 c2 c3 c4 c5 c6 c7 o2
      go_wp2_with (at_builtin; refine Halt.out ?_)
      refine Halt.mk ?_
      refine app rfl _ _ rfl (w.heap.size + 1) _ _ rfl o3 a2 4 d2 _ rfl r2 (by simp [Pl.twop]) (by have := K2.lt; omega) ?_
      intro v4 W4 o4 b4
      rw [HH.out] at o4
      go_wp2_with fail
      go_meet
      exact ⟨o4, Blk.below K2 b4 (Nat.lt_succ_self _), Below.trans E2 (Below.mono b4 (Nat.le_succ _))⟩
  obtain ⟨o4, K4, E4⟩ := hcut
  clear c0 c1 c2 c3 c4 c5 c6 c7 o1' K1 E1
  obtain ⟨c0, c1, c2, c3, c4, c5, c6, c7⟩ := K4.sg
  clear c1 c2 c3 c4 c5 c6
  have hlen : (Pl.two (Pl.segWords s n 0)).length ≤ 20 := by
    rw [Pl.two_length]
    unfold Pl.segWords
    split <;> simp
  have HLE := Lib.hid hlen
  clear hlen
  go_wp2_with (at_builtin; refine Halt.out ?_)
  refine Halt.mk ?_
  refine app rfl _ _ rfl (w.heap.size + 1) _ _ rfl o4 a n c xs rfl (HR.out.ext E4) (by have := HLE.out; have := HOK.out.2.2.2.2.2.2.2.2; omega) (by have := K4.lt; omega) ?_
  intro v5 W5 o5 b5
  have hS : Pl.two (Pl.segWords s n 0) ++ xs = Pl.segBytes s 0 xs := by unfold Pl.segBytes; rw [HL.out]
  rw [hS] at o5
  have K5 := Blk.below K4 b5 (Nat.lt_succ_self _)
  have E5 : Ext w W5 := Below.trans E4 (Below.mono b5 (Nat.le_succ _))
  have hn := HOK.out.2.2.2.2.2.2.2.2
  have hok' : Pl.SegOk s xs.length := by rw [HL.out]; exact HOK.out
  have hI5 : Pl.IsB (Pl.segBytes s 0 xs) := Pl.segBytes_isB hok' (by decide) HB.out
  have hL5 := Pl.segBytes_length (c := 0) (xs := xs) HOK.out.1
  have hsz : Pl.segSize s.kind ≤ 20 ∧ Pl.segAt s.kind + 2 ≤ Pl.segSize s.kind := by
    unfold Pl.segSize Pl.segAt
    split <;> omega
  rw [HL.out] at hL5
  obtain ⟨gg, nn, cc, rfl, hnn, hcc, hg0, hg1, hcell, hfr⟩ := o5.shape (by omega)
  obtain ⟨pa, na, ca, hpa, _, r5⟩ := o5.read
  cases hpa
  have HNN := Lib.hid hnn
  have HL5 := Lib.hid hL5
  have HII := Lib.hid hI5
  have HOK' := Lib.hid hok'
  have hnn1 : nn ≤ 65536 := by omega
  have hnn2 : Pl.segAt s.kind + 2 ≤ nn := by omega
  have hcA := hcell (Pl.segAt s.kind) (by omega)
  have hcB := hcell (Pl.segAt s.kind + 1) (by omega)
  have hfA := hfr (Pl.segAt s.kind)
  have hfB := hfr (Pl.segAt s.kind + 1)
  clear c0 c7 o4 K4 E4 b5 hS hcell hfr hI5 hok' hL5 hnn hsz
  obtain ⟨c0, c1, c2, c3, c4, c5, c6, c7⟩ := K5.sg
  clear c1 c2 c3 c4 c5 c6 c7
  go_wp2_with fail
  refine (raw_any _ _ _ _ W5 r5 HII.out hnn1).mono ?_
  rintro e w' ⟨rfl, rfl⟩
  go_wp2_with fail
  refine (add_any over _ W5 HO.out ⟨Pl.fold_lo _, Pl.fold_hi _⟩).mono ?_
  rintro e W6 ⟨rfl, q6⟩
  have hC : Pl.fold (over + Pl.fold (Pl.raw 0 (Pl.segBytes s 0 xs))) = 65535 - Pl.segSum s over xs := by unfold Pl.segSum; omega
  rw [hC]
  clear hC
  have K6 := K5.ext q6
  have E6 := E5.trans q6
  have o6 := o5.ext q6
  have hA6 := (World.cell?_of_block (a := ⟨gg, Pl.segAt s.kind, none⟩) (Below.block q6 gg hg1)).trans hcA
  have hB6 := (World.cell?_of_block (a := ⟨gg, Pl.segAt s.kind + 1, none⟩) (Below.block q6 gg hg1)).trans hcB
  have gA6 := (Below.frozen q6 (p := ⟨gg, Pl.segAt s.kind, none⟩) hg1).trans hfA
  have gB6 := (Below.frozen q6 (p := ⟨gg, Pl.segAt s.kind + 1, none⟩) hg1).trans hfB
  have hz6 := q6.size
  clear c0 o5 r5 hcA hcB hfA hfB K5 E5 q6
  obtain ⟨c0, c1, c2, c3, c4, c5, c6, c7⟩ := K6.sg
  clear c1 c2 c3 c4 c5 c6 c7
  obtain ⟨b0, b1⟩ := Pl.segSum_bd s over xs
  obtain ⟨C, hCC⟩ : ∃ C, Pl.segSum s over xs = C := ⟨_, rfl⟩
  rw [hCC] at b0 b1 ⊢
  have HCC := Lib.hid hCC
  have e10 : (65535 - (65535 - C)) = C := by omega
  have e8 : IntKind.i64.wrap (65535 - (65535 - C)) = C := by rw [e10]; exact IntWalk.i64_in _ (by omega)
  clear hCC
  obtain ⟨Z, hZ⟩ : ∃ Z, decide (s.kind = 17 ∧ C = 0) = Z := ⟨_, rfl⟩
  have HZ := Lib.hid hZ
  clear hZ
  go_upto_region 8 with (fail)
  go_cut [65] (fun b wc => W6 = wc ∧ b = .bool Z)
  case first =>
    rcases HOK.out.1 with hk | hk
    · have hkb : (s.kind == 17) = false := by rw [hk]; rfl
      have HR2 := Lib.hid (show false = Z by rw [← HZ.out, decide_eq_false (by omega)])
      clear hk
      go_wp2_with fail
      go_meet
      exact ⟨rfl, by rw [HR2.out]⟩
    · have hkb : (s.kind == 17) = true := by rw [hk]; rfl
      by_cases hz : C = 0
      · have hzb : (C == 0) = true := by rw [hz]; rfl
        have HR2 := Lib.hid (show true = Z by rw [← HZ.out, decide_eq_true ⟨hk, hz⟩])
        clear hk hz
        go_wp2_with fail
        go_meet
        exact ⟨rfl, by rw [HR2.out]⟩
      · have hzb : (C == 0) = false := by simpa using hz
        have HR2 := Lib.hid (show false = Z by rw [← HZ.out, decide_eq_false (fun h => hz h.2)])
        clear hk hz
        go_wp2_with fail
        go_meet
        exact ⟨rfl, by rw [HR2.out]⟩
  obtain ⟨rfl, rfl⟩ := hcut
  go_upto_if 65 with (fail)
  go_cut [6] (fun m wc => W6 = wc ∧ m = .int .i64 (Pl.segCheck s over xs))
  case first =>
    have hck : Pl.segCheck s over xs = if s.kind = 17 ∧ C = 0 then 65535 else C := by unfold Pl.segCheck; rw [HCC.out]
    cases Z
    · have HR2 := Lib.hid (show C = Pl.segCheck s over xs by rw [hck, if_neg (of_decide_eq_false HZ.out)])
      clear hck
      go_wp2_with fail
      go_meet
      exact ⟨rfl, by rw [HR2.out]⟩
    · have HR2 := Lib.hid (show (65535 : Int) = Pl.segCheck s over xs by rw [hck, if_pos (of_decide_eq_true HZ.out)])
      clear hck
      go_wp2_with fail
      go_meet
      exact ⟨rfl, by rw [HR2.out]⟩
  obtain ⟨rfl, rfl⟩ := hcut
  obtain ⟨k0, k1⟩ := Pl.segCheck_bd s over xs
  have HSET := Lib.hid (Pl.segBytes_set s (Pl.segCheck s over xs) xs HOK.out.1)
  obtain ⟨D, hD⟩ : ∃ D, Pl.segCheck s over xs = D := ⟨_, rfl⟩
  rw [hD] at k0 k1 HSET ⊢
  have HD := Lib.hid hD
  clear hD
  have HKK := Lib.hid HOK.out.1
  clear e8 e10 b0 b1 HCC
  go_wp2_with fail
  refine (head_any s.kind W6 HKK.out).mono ?_
  rintro e w' ⟨rfl, rfl⟩
  generalize Pl.segAt s.kind = J at *
  have w1 : IntKind.i64.wrap ((J : Int) + 1) = (J : Int) + 1 := IntWalk.i64_in _ (by omega)
  have w2 : ((J : Int) + 1).toNat = J + 1 := by omega
  have w3 : (J : Int) < (nn : Int) := by omega
  have w4 : (J : Int) + 1 < (nn : Int) := by omega
  have e1 : IntKind.u8.wrap (D / 256) = D / 256 := IntWalk.u8_in _ (by omega)
  have e2 : IntKind.u8.wrap D = D % 256 := by rw [IntKind.wrap_u8]
  clear c0
  go_wp2_with fail
  go_ret
  have o7 := (o6.store J (D / 256)).store (J + 1) (D % 256)
  rw [HSET.out, show Pl.segBytes s D xs = Pl.segBytes s (Pl.segCheck s over xs) xs by rw [HD.out]] at o7
  exact ⟨_, rfl, o7.mono (Nat.le_succ _), (E6.set (p := ⟨gg, J, none⟩) (by show w.heap.size ≤ gg; omega) _).set (p := ⟨gg, J + 1, none⟩) (by show w.heap.size ≤ gg; omega) _⟩

/-- What Encode gives: the fault. -/
def Pl.encF (s : Sg) (over : Int) (n : Nat) : Int := if Pl.segFault s n ≠ 0 then Pl.segFault s n else if Pl.Word over then 0 else 1
def Pl.encB (s : Sg) (over : Int) (xs : List Int) : List Int := if Pl.encF s over xs.length = 0 then Pl.segBytes s (Pl.segCheck s over xs) xs else []
theorem Pl.encF_zero {s : Sg} {over : Int} {n : Nat} (h : Pl.encF s over n = 0) : Pl.SegOk s n ∧ Pl.Word over := by
  unfold Pl.encF at h
  split at h
  · rename_i h1; exact absurd h h1
  rename_i h1
  split at h
  · rename_i h2; exact ⟨Pl.segOk_of (Decidable.byContradiction h1), h2⟩
  · cases h
theorem Pl.encF_ok {s : Sg} {over : Int} {n : Nat} (h : Pl.SegOk s n) (ho : Pl.Word over) : Pl.encF s over n = 0 := by
  unfold Pl.encF
  rw [if_neg (by simpa using Pl.segOk_to h), if_pos ho]
set_option maxRecDepth 100000 in
set_option maxHeartbeats 4000000 in
theorem sEncode_any (s : Sg) (a : Option Addr) (n c : Nat) (xs : List Int) (over : Int) (w : World) (hr : Ints .u8 w a n xs) (hb : Pl.IsB xs) :
    Calls Tryd.prog 32 #[s.v (.slice a n c), .int .i64 over] w fun e w' => ∃ v, e = .returned (.tuple #[v, erv (Pl.encF s over xs.length)]) ∧ Own w' w.heap.size v (Pl.encB s over xs) ∧ Ext w w' := by
  have HR := Lib.hid hr
  have HB := Lib.hid hb
  have HL := Lib.hid hr.len
  have K0 := Blk.new w 50 (s.cells (.slice a n c))
  have E0 : Ext w (w.alloc (.cells (s.cells (.slice a n c)) 50)) := (Ext.refl w).alloc _
  have ld := K0.seg
  clear hr hb
  go_enter Tryd.func32, Tryd.ntmps32
  go_wp2_with ((apply load_by rfl _ _ rfl _ rfl); (focus (with_reducible assumption)))
  refine (scheck_any s a n c _).mono ?_
  rintro e W1 ⟨he, q1⟩
  unfold SegChk at he
  subst he
  have K1 := K0.ext q1
  have E1 := E0.trans q1
  clear ld K0 E0 q1
  by_cases hf : Pl.segFault s n = 0
  case neg =>
    have HF := Lib.hid (show Pl.encF s over xs.length = Pl.segFault s n by unfold Pl.encF; rw [HL.out, if_pos hf])
    have HBB := Lib.hid (show Pl.encB s over xs = [] by unfold Pl.encB; rw [HF.out, if_neg hf])
    rw [errOf_ne hf]
    have HN := Lib.hid hf
    unfold errv
    clear hf
    go_wp2_with fail
    go_ret2
    exact ⟨_, by rw [HF.out, erv_ne HN.out]; rfl, by rw [HBB.out]; exact Own.nil _ _, E1⟩
  rw [hf, errOf_zero]
  have HF := Lib.hid hf
  clear hf
  by_cases ho : Pl.Word over
  case neg =>
    have HE := Lib.hid (show Pl.encF s over xs.length = 1 by unfold Pl.encF; rw [HL.out, HF.out, if_neg (by simp), if_neg ho])
    have HBB := Lib.hid (show Pl.encB s over xs = [] by unfold Pl.encB; rw [HE.out, if_neg (by decide)])
    have HO := Lib.hid ho
    clear ho
    go_wp2_with fail
    refine (sword_no over W1 HO.out).mono ?_
    rintro e w' ⟨rfl, rfl⟩
    go_wp2_with fail
    go_ret2
    exact ⟨_, by rw [HE.out]; rfl, by rw [HBB.out]; exact Own.nil _ _, E1⟩
  have HE := Lib.hid (show Pl.encF s over xs.length = 0 by unfold Pl.encF; rw [HL.out, HF.out, if_neg (by simp), if_pos ho])
  have HBB := Lib.hid (show Pl.encB s over xs = Pl.segBytes s (Pl.segCheck s over xs) xs by unfold Pl.encB; rw [HE.out, if_pos rfl])
  have HO := Lib.hid ho
  clear ho
  go_wp2_with fail
  refine (sword_yes over W1 HO.out).mono ?_
  rintro e w' ⟨rfl, rfl⟩
  have ld := K1.seg
  go_wp2_with ((apply load_by rfl _ _ rfl _ rfl); (focus (with_reducible assumption)))
  refine (sencode_any s a n c xs over W1 (Pl.segOk_of HF.out) (HR.out.ext E1) HB.out HO.out).mono ?_
  rintro e W2 ⟨v2, rfl, o2, q2⟩
  go_wp2_with fail
  go_ret2
  exact ⟨_, by rw [HE.out]; rfl, by rw [HBB.out]; exact o2.mono E1.size, E1.trans q2⟩
end Go.Proofs.YtkjchddidpjjmaaDoor
/- Plain laws of the choice of a server (no program in sight): who is best of a list, and that it stays so in another order, or without one that is not it. Conditions: as each lemma states them. -/
namespace Go.Proofs.YtkjchddidpjjmaaDoor.Pl

/-- A server. -/
structure Back where
  id : Int
  addr : Int
  door : Int
  weight : Int
  up : Bool
  drain : Bool

/-- May it be picked? -/
def Elig (b : Back) : Prop := b.up = true ∧ b.drain = false ∧ b.weight ≠ 0
instance (b : Back) : Decidable (Elig b) := by unfold Elig; infer_instance
/-- Is b better than c? -/
def Beats (sc : Back → Int) (c b : Back) : Prop := sc c < sc b ∨ (sc c = sc b ∧ b.id < c.id)
instance (sc : Back → Int) (c b : Back) : Decidable (Beats sc c b) := by unfold Beats; infer_instance
def step (sc : Back → Int) (cur : Option Back) (b : Back) : Option Back :=
  if Elig b then (match cur with | none => some b | some c => if Beats sc c b then some b else some c) else cur
def best (sc : Back → Int) (l : List Back) : Option Back := l.foldl (step sc) none

theorem snoc_ind {α : Type} {P : List α → Prop} (h0 : P []) (hs : ∀ l a, P l → P (l ++ [a])) (l : List α) : P l := by
  rw [← List.reverse_reverse l]
  generalize l.reverse = m
  induction m with
  | nil => exact h0
  | cons a r ih => rw [List.reverse_cons]; exact hs _ _ ih

theorem best_snoc (sc : Back → Int) (l : List Back) (b : Back) : best sc (l ++ [b]) = step sc (best sc l) b := by simp [best]

theorem best_spec (sc : Back → Int) (l : List Back) : (best sc l = none ∧ ∀ y ∈ l, ¬ Elig y) ∨ ∃ x, x ∈ l ∧ best sc l = some x ∧ Elig x ∧ ∀ y ∈ l, Elig y → ¬ Beats sc x y := by
  refine snoc_ind (P := fun l => (best sc l = none ∧ ∀ y ∈ l, ¬ Elig y) ∨ ∃ x, x ∈ l ∧ best sc l = some x ∧ Elig x ∧ ∀ y ∈ l, Elig y → ¬ Beats sc x y) (.inl ⟨rfl, fun _ h => by cases h⟩) (fun l b ih => ?_) l
  · rw [best_snoc]
    unfold step
    by_cases he : Elig b
    · rw [if_pos he]
      rcases ih with ⟨h0, hn⟩ | ⟨x, hx, h0, hex, hbx⟩
      · rw [h0]
        refine .inr ⟨b, by simp, rfl, he, fun y hy hey => ?_⟩
        rcases List.mem_append.1 hy with hy | hy
        · exact absurd hey (hn y hy)
        · rw [List.mem_singleton.1 hy]
          unfold Beats
          omega
      · rw [h0]
        by_cases hb : Beats sc x b
        · simp only [if_pos hb]
          refine .inr ⟨b, by simp, rfl, he, fun y hy hey => ?_⟩
          rcases List.mem_append.1 hy with hy | hy
          · have := hbx y hy hey
            unfold Beats at *
            omega
          · rw [List.mem_singleton.1 hy]
            unfold Beats
            omega
        · simp only [if_neg hb]
          refine .inr ⟨x, by simp [hx], rfl, hex, fun y hy hey => ?_⟩
          rcases List.mem_append.1 hy with hy | hy
          · exact hbx y hy hey
          · rw [List.mem_singleton.1 hy]; exact hb
    · rw [if_neg he]
      rcases ih with ⟨h0, hn⟩ | ⟨x, hx, h0, hex, hbx⟩
      · refine .inl ⟨h0, fun y hy => ?_⟩
        rcases List.mem_append.1 hy with hy | hy
        · exact hn y hy
        · rw [List.mem_singleton.1 hy]; exact he
      · refine .inr ⟨x, by simp [hx], h0, hex, fun y hy hey => ?_⟩
        rcases List.mem_append.1 hy with hy | hy
        · exact hbx y hy hey
        · rw [List.mem_singleton.1 hy] at hey; exact absurd hey he

/-- No two have one ID. -/
def Apart (l : List Back) : Prop := l.Pairwise fun a b => a.id ≠ b.id

theorem Apart.eq {l : List Back} (h : Apart l) : ∀ {x y : Back}, x ∈ l → y ∈ l → x.id = y.id → x = y := by
  induction l with
  | nil => intro x y hx; cases hx
  | cons z r ih =>
    intro x y hx hy hxy
    rw [Apart, List.pairwise_cons] at h
    rcases List.mem_cons.1 hx with hx1 | hx1
    · rcases List.mem_cons.1 hy with hy1 | hy1
      · rw [hx1, hy1]
      · rw [hx1] at hxy; exact absurd hxy (h.1 y hy1)
    · rcases List.mem_cons.1 hy with hy1 | hy1
      · rw [hy1] at hxy; exact absurd hxy.symm (h.1 x hx1)
      · exact ih h.2 hx1 hy1 hxy

/-- Of fewer, or in another order, it is the same. -/
theorem best_sub {sc : Back → Int} {l m : List Back} {x : Back} (ha : Apart l) (hl : best sc l = some x) (hm : ∀ y ∈ m, y ∈ l) (hx : x ∈ m) : best sc m = some x := by
  rcases best_spec sc l with ⟨h0, _⟩ | ⟨x1, hx1, h1, he1, hb1⟩
  · rw [h0] at hl; cases hl
  · obtain rfl : x1 = x := by rw [h1] at hl; exact Option.some.inj hl
    rcases best_spec sc m with ⟨_, hn⟩ | ⟨x2, hx2, h2, he2, hb2⟩
    · exact absurd he1 (hn _ hx)
    · rw [h2]
      have q1 := hb1 x2 (hm _ hx2) he2
      have q2 := hb2 x1 hx he1
      have : x1.id = x2.id := by unfold Beats at *; omega
      rw [ha.eq (hm _ hx2) hx1 this.symm]
theorem best_mem {sc : Back → Int} {l : List Back} {x : Back} (hl : best sc l = some x) : x ∈ l ∧ Elig x := by
  rcases best_spec sc l with ⟨h0, _⟩ | ⟨x1, hx1, h1, he1, _⟩
  · rw [h0] at hl; cases hl
  · obtain rfl : x1 = x := by rw [h1] at hl; exact Option.some.inj hl
    exact ⟨hx1, he1⟩

theorem Apart.reverse {l : List Back} (h : Apart l) : Apart l.reverse := by
  unfold Apart at *
  rw [List.pairwise_reverse]
  exact h.imp fun hab => fun e => hab e.symm
theorem Apart.sub {l m : List Back} (h : Apart l) (hs : m.Sublist l) : Apart m := List.Pairwise.sublist hs h

/-- All but one. -/
def less (l : List Back) (k : Nat) : List Back := l.take k ++ l.drop (k + 1)
theorem less_sub (l : List Back) (k : Nat) : (less l k).Sublist l := by
  have h : (l.take k ++ l.drop (k + 1)).Sublist (l.take k ++ l.drop k) := List.Sublist.append (List.Sublist.refl _) (List.drop_sublist_drop_left l (Nat.le_succ k))
  rw [List.take_append_drop] at h
  exact h
theorem less_mem {l : List Back} (k : Nat) {x z : Back} (hk : l[k]? = some z) (hx : x ∈ l) (hne : x ≠ z) : x ∈ less l k := by
  obtain ⟨j, hj, rfl⟩ := List.mem_iff_getElem.1 hx
  obtain ⟨hk', rfl⟩ := List.getElem?_eq_some_iff.1 hk
  unfold less
  rcases Nat.lt_trichotomy j k with h | h | h
  · exact List.mem_append_left _ (List.mem_take_iff_getElem.2 ⟨j, by omega, rfl⟩)
  · subst h; exact absurd rfl hne
  · refine List.mem_append_right _ (List.mem_drop_iff_getElem.2 ⟨j - (k + 1), by omega, ?_⟩)
    congr 1
    omega
/-- Who is taken out has no other of its ID left. -/
theorem less_not {l : List Back} (ha : Apart l) (k : Nat) {z y : Back} (hk : l[k]? = some z) (hy : y ∈ less l k) : y.id ≠ z.id := by
  obtain ⟨hk', rfl⟩ := List.getElem?_eq_some_iff.1 hk
  unfold Apart at ha
  rw [List.pairwise_iff_getElem] at ha
  unfold less at hy
  rcases List.mem_append.1 hy with h | h
  · obtain ⟨j, hj, rfl⟩ := List.mem_take_iff_getElem.1 h
    exact ha j k (by omega) hk' (by omega)
  · obtain ⟨j, hj, rfl⟩ := List.mem_drop_iff_getElem.1 h
    exact fun e => ha k (k + 1 + j) hk' (by omega) (by omega) e.symm
end Go.Proofs.YtkjchddidpjjmaaDoor.Pl
/- The contract of the mixer's mix: numbers mixed into it. Conditions: as each theorem states them. -/
namespace Go.Proofs.YtkjchddidpjjmaaDoor
open Go.RowKit
namespace Pl
def mix1 (m n : Int) : Int := (m * 69069 + n + 1) % 2147483648
def mix (m : Int) (l : List Int) : Int := l.foldl mix1 m
theorem mix_snoc (m : Int) (l : List Int) (x : Int) : mix m (l ++ [x]) = mix1 (mix m l) x := by simp [mix]
theorem mix_append (m : Int) (l k : List Int) : mix m (l ++ k) = mix (mix m l) k := by simp [mix]
theorem mix_bd (m : Int) (l : List Int) (h : 0 ≤ m ∧ m < 2147483648) : 0 ≤ mix m l ∧ mix m l < 2147483648 := by
  refine snoc_ind (P := fun l => 0 ≤ mix m l ∧ mix m l < 2147483648) h (fun l a _ => ?_) l
  rw [mix_snoc]
  unfold mix1
  omega
end Pl

/-- Only block g has turned (and what is new). -/
theorem only_set {a w : World} {g : Nat} (h : a.grownBy w (some g)) (j : Nat) (u : Value) : a.grownBy (w.setCell ⟨g, j, none⟩ u) (some g) :=
  ⟨h.os, h.tape, h.output, by simpa [World.setCell] using h.size, fun i hi hne => (Below.heap_setCell w ⟨g, j, none⟩ u i (by rintro rfl; exact hne rfl)).trans (h.block i hi hne)⟩
theorem Blk.only {w w' : World} {g g' : Nat} {t : TypeId} {cs : Array Value} (h : Blk w g t cs) (hb : w.grownBy w' (some g')) (hg : g ≠ g') : Blk w' g t cs := (hb.block g h.lt (fun e => hg (Option.some.inj e))).trans h
theorem Ints.only {k : IntKind} {w w' : World} {a : Option Addr} {n : Nat} {xs : List Int} {g : Nat} (h : Ints k w a n xs) (hb : w.grownBy w' (some g)) (hg : ∀ p, a = some p → p.block ≠ g) : Ints k w' a n xs := by
  refine ⟨h.1, ?_⟩
  rcases h.2 with h0 | ⟨b, off, rfl, hc⟩
  · exact .inl h0
  · refine .inr ⟨b, off, rfl, fun i hi => ?_⟩
    have := hc i hi
    rw [World.cell?_of_block (hb.block b (World.block_lt_of_cell? w _ this) (fun e => hg _ rfl (Option.some.inj e)))]
    exact this
theorem Below.only {B : Nat} {a w w' : World} {g : Nat} (h : Below B a w) (hb : w.grownBy w' (some g)) (hB : B ≤ w.heap.size) (hg : B ≤ g) : Below B a w' := h.grown hb hB fun _ e => by rw [← Option.some.inj e]; exact hg

theorem words_at {l : List Int} (h : words l = true) (k : Nat) : 0 ≤ l.getD k 0 ∧ l.getD k 0 ≤ 65535 := by
  by_cases hk : k < l.length
  · by_cases hb : 0 ≤ l.getD k 0 ∧ l.getD k 0 ≤ 65535
    · exact hb
    · rw [words_bad l k hk hb] at h; cases h
  · rw [List.getD_eq_getElem?_getD, List.getElem?_eq_none (by omega)]; simp

end Go.Proofs.YtkjchddidpjjmaaDoor
/- The contracts of package shift: check, New, ahead, Heard, Begun. Conditions: as each theorem states them. -/
namespace Go.Proofs.YtkjchddidpjjmaaDoor
open Go.RowKit
namespace Pl
/-- What is wrong with a segment for a stream. -/
def shFault (s : Sg) (n : Nat) : Int := if segFault s n ≠ 0 then segFault s n else if s.kind ≠ 6 then 2 else 0
end Pl
def ShChk (s : Sg) (n : Nat) (e : Ending) : Prop := e = .returned (errOf (Pl.shFault s n))
theorem shChk_of {s : Sg} {n : Nat} {q : Int} (h : Pl.shFault s n = q) (v : Value) (hv : errOf q = v) : ShChk s n (.returned v) := by unfold ShChk; rw [h, hv]

set_option maxRecDepth 100000 in
set_option maxHeartbeats 1000000 in
theorem shcheck_any (s : Sg) (a : Option Addr) (n c : Nat) (w : World) :
    Calls Tryd.prog 59 #[s.v (.slice a n c)] w fun e w' => ShChk s n e ∧ Ext w w' := by
  have K0 := Blk.new w 50 (s.cells (.slice a n c))
  have E0 : Ext w (w.alloc (.cells (s.cells (.slice a n c)) 50)) := (Ext.refl w).alloc _
  have l0 := K0.seg
  go_enter Tryd.func59, Tryd.ntmps59
  go_wp2_with ((apply load_by rfl _ _ rfl _ rfl); (focus (with_reducible assumption)))
  clear l0
  refine (scheck_any s a n c _).mono ?_
  rintro e W1 ⟨hc, q1⟩
  unfold SegChk at hc
  subst hc
  have K1 := K0.ext q1
  have E1 := E0.trans q1
  obtain ⟨c0, -⟩ := K1.sg
  by_cases hf : Pl.segFault s n = 0
  · rw [hf, errOf_zero]
    by_cases hk : s.kind = 6
    · have h6 : (s.kind != 6) = false := by simpa using hk
      have hr : Pl.shFault s n = 0 := by unfold Pl.shFault; rw [if_neg (by simpa using hf), if_neg (by simpa using hk)]
      have HR := Lib.hid hr
      clear hf hk hr
      go_wp2_with fail
      go_ret
      exact ⟨shChk_of HR.out _ rfl, E1⟩
    · have h6 : (s.kind != 6) = true := by simpa using hk
      have hr : Pl.shFault s n = 2 := by unfold Pl.shFault; rw [if_neg (by simpa using hf), if_pos hk]
      have HR := Lib.hid hr
      clear hf hk hr
      go_wp2_with fail
      go_ret
      exact ⟨shChk_of HR.out _ rfl, E1⟩
  · rw [errOf_ne hf]
    have hr : Pl.shFault s n = Pl.segFault s n := by unfold Pl.shFault; rw [if_pos hf]
    have hr' := errOf_ne hf
    generalize Pl.segFault s n = q at *
    have HR := Lib.hid hr
    have HE := Lib.hid hr'
    clear hf hr hr'
    unfold errv
    go_wp2_with fail
    go_ret
    exact ⟨shChk_of HR.out _ HE.out, E1⟩

/-- A stream in memory: its head's slice, where it starts, whether it has begun, was heard. -/
def StB (w : World) (g : Nat) (h : Value) (start : Int) (begun heard : Bool) : Prop := Blk w g 102 #[h, .int .u32 start, .bool begun, .bool heard]

theorem new_full (a : Option Addr) (n c : Nat) (w : World) (hn : 100 < n) :
    Calls Tryd.prog 19 #[.slice a n c] w fun e w' => e = .returned (.tuple #[.pointer none, errv 3]) ∧ Ext w w' := by
  go_enter Tryd.func19, Tryd.ntmps19
  go_wp2_with fail
  go_ret2
  exact ⟨rfl, Ext.refl _⟩
theorem new_ok (a : Option Addr) (n c : Nat) (xs : List Int) (w : World) (hn : n ≤ 100) (hx : Ints .u8 w a n xs) (hc : a = none → c = 0) :
    Calls Tryd.prog 19 #[.slice a n c] w fun e w' => ∃ g h, e = .returned (.tuple #[.pointer (some ⟨g, 0, none⟩), .nilIface]) ∧ w.heap.size ≤ g ∧ StB w' g h 0 false false ∧ Own w' w.heap.size h xs ∧ (∀ k, h.ownBlock = some k → k < g) ∧ Ext w w' := by
  have hd : decide ((100 : Int) < (n : Int)) = false := by simp; omega
  go_enter Tryd.func19, Tryd.ntmps19
  go_wp2_with fail
  refine (clone_any a n c xs w hx hc (by omega)).mono ?_
  rintro e W1 ⟨v, rfl, o1, b1⟩
  obtain ⟨va, vn, vc, rfl, hvc, _⟩ := o1.read
  have E1 : Ext w W1 := b1
  have o2 := o1.ext ((Ext.refl W1).alloc (.cells #[.slice va vn vc, .int .u32 0, .bool false, .bool false] 102))
  go_wp2_with fail
  go_ret2
  exact ⟨_, _, rfl, E1.size, Blk.new _ _ _, o2, fun k hk => (o1.lt k hk).2, E1.alloc _⟩

theorem heard_any (g : Nat) (h : Value) (start : Int) (begun heard : Bool) (w : World) (k : StB w g h start begun heard) :
    Calls Tryd.prog 26 #[.pointer (some ⟨g, 0, none⟩)] w fun e w' => e = .returned (.bool heard) ∧ w = w' := by
  have c3 : w.cell? ⟨g, 3, none⟩ = some (.bool heard) := Blk.cells k 3
  clear k
  go_enter Tryd.func26, Tryd.ntmps26
  go_wp2
  go_ret
  exact ⟨rfl, rfl⟩

/-- Is a number of a stream ahead of another one, by less than half of all? -/
def aheadB (a b : Int) : Bool := decide ((b - a - 1) % 4294967296 < 2147483647)
theorem ahead_any (a b : Int) (w : World) (ha : 0 ≤ a ∧ a < 4294967296) (hb : 0 ≤ b ∧ b < 4294967296) :
    Calls Tryd.prog 60 #[.int .u32 a, .int .u32 b] w fun e w' => e = .returned (.bool (aheadB a b)) ∧ w = w' := by
  obtain ⟨a0, a1⟩ := ha
  obtain ⟨b0, b1⟩ := hb
  have e1 : IntKind.u32.wrap (b - a) = (b - a) % 4294967296 := by rw [IntKind.wrap_u32]
  have e2 : IntKind.u32.wrap ((b - a) % 4294967296 - 1) = (b - a - 1) % 4294967296 := by rw [IntKind.wrap_u32]; omega
  go_enter Tryd.func60, Tryd.ntmps60
  go_wp2
  go_ret
  exact ⟨ret_bool (by unfold aheadB; rfl), rfl⟩
theorem ahead_yes (a b : Int) (w : World) (ha : 0 ≤ a ∧ a < 4294967296) (hb : 0 ≤ b ∧ b < 4294967296) (h : aheadB a b = true) :
    Calls Tryd.prog 60 #[.int .u32 a, .int .u32 b] w fun e w' => e = .returned (.bool true) ∧ w' = w := (ahead_any a b w ha hb).mono fun _ _ ⟨he, hw⟩ => ⟨by rw [he, h], hw.symm⟩
theorem ahead_no (a b : Int) (w : World) (ha : 0 ≤ a ∧ a < 4294967296) (hb : 0 ≤ b ∧ b < 4294967296) (h : aheadB a b = false) :
    Calls Tryd.prog 60 #[.int .u32 a, .int .u32 b] w fun e w' => e = .returned (.bool false) ∧ w' = w := (ahead_any a b w ha hb).mono fun _ _ ⟨he, hw⟩ => ⟨by rw [he, h], hw.symm⟩

def sg0 : Sg := ⟨0, 0, 0, 0, 0, 0, 0⟩
theorem Sg.one (s : Sg) (a : Option Addr) (n c : Nat) : (s.cells (.slice a n c)).all (·.oneCell') = true := by simp [Sg.cells, Value.oneCell']
theorem Sg.put7 (s : Sg) (d v : Value) : (s.cells d).setIfInBounds 7 v = s.cells v := rfl
theorem bits_flag : ∀ f : Fin 32, bits .and .i64 (f.val : Int) 2 = 2 * ((f.val : Int) / 2 % 2) ∧ bits .and .i64 (f.val : Int) 16 = 16 * ((f.val : Int) / 16 % 2) := by decide +kernel
theorem flag2 {f : Int} (h0 : 0 ≤ f) (h1 : f ≤ 31) : bits .and .i64 f 2 = 2 * (f / 2 % 2) := by
  have := (bits_flag ⟨f.toNat, by omega⟩).1
  simpa only [Int.toNat_of_nonneg h0] using this
theorem flag16 {f : Int} (h0 : 0 ≤ f) (h1 : f ≤ 31) : bits .and .i64 f 16 = 16 * (f / 16 % 2) := by
  have := (bits_flag ⟨f.toNat, by omega⟩).2
  simpa only [Int.toNat_of_nonneg h0] using this
/-- A segment of TCP without a fault. -/
theorem shFault_ok {s : Sg} {n : Nat} (h : Pl.shFault s n = 0) : s.kind = 6 ∧ (0 ≤ s.seq ∧ s.seq < 4294967296) ∧ (0 ≤ s.ack ∧ s.ack < 4294967296) ∧ (0 ≤ s.flags ∧ s.flags ≤ 31) ∧ n ≤ 300 := by
  unfold Pl.shFault at h
  by_cases hs : Pl.segFault s n ≠ 0
  · rw [if_pos hs] at h; exact absurd h hs
  · rw [if_neg hs] at h
    have h6 : s.kind = 6 := by
      by_cases h6 : s.kind = 6
      · exact h6
      · rw [if_pos h6] at h; omega
    have hf : Pl.segFault s n = 0 := by omega
    unfold Pl.segFault at hf
    split at hf
    · omega
    · split at hf
      · omega
      · split at hf
        · omega
        · split at hf
          · omega
          · rename_i _ h2 _ h4
            refine ⟨h6, ?_⟩
            have := fun q => h2 ⟨h6, q⟩
            omega

theorem sto {w : World} {R : Nat} (k : Blk w R 50 #[.int .i64 0, .int .i64 0, .int .i64 0, .int .i64 0, .int .i64 0, .int .i64 0, .int .i64 0, .slice none 0 0]) (s : Sg) (a : Option Addr) (n c : Nat) :
    (Instr.storeAt 50 (.pointer (some ⟨R, 0, none⟩)) (.agg (s.cells (.slice a n c)))).run Tryd.prog w = .ok () (w.setRow R (s.cells (.slice a n c))) := k.store rfl Tryd.sizeSeg (s.one a n c)
theorem sto0 {w : World} {R : Nat} (k : Blk w R 50 #[.int .i64 0, .int .i64 0, .int .i64 0, .int .i64 0, .int .i64 0, .int .i64 0, .int .i64 0, .slice none 0 0]) :
    (Instr.storeAt 50 (.pointer (some ⟨R, 0, none⟩)) (.agg #[.int .i64 0, .int .i64 0, .int .i64 0, .int .i64 0, .int .i64 0, .int .i64 0, .int .i64 0, .slice none 0 0])).run Tryd.prog w = .ok () (w.setRow R #[.int .i64 0, .int .i64 0, .int .i64 0, .int .i64 0, .int .i64 0, .int .i64 0, .int .i64 0, .slice none 0 0]) := k.store rfl Tryd.sizeSeg (by simp [Value.oneCell'])
theorem StB.lt {w : World} {g : Nat} {h : Value} {start : Int} {begun heard : Bool} (k : StB w g h start begun heard) : g < w.heap.size := Blk.lt k

/-- What Down gives: the segment's numbers and bytes, or an error. -/
def SegErr (q : Int) (e : Ending) : Prop := e = .returned (.tuple #[.agg (sg0.cells (.slice none 0 0)), errv q])

set_option maxRecDepth 100000 in
set_option maxHeartbeats 2000000 in
theorem down_fault (g : Nat) (s : Sg) (a : Option Addr) (n c : Nat) (w : World) (hf : Pl.shFault s n ≠ 0) :
    Calls Tryd.prog 21 #[.pointer (some ⟨g, 0, none⟩), s.v (.slice a n c)] w fun e w' => SegErr (Pl.shFault s n) e ∧ Ext w w' := by
  have KB := Blk.new w 50 (s.cells (.slice a n c))
  have lB := (KB.alloc (.cells #[.int .i64 0, .int .i64 0, .int .i64 0, .int .i64 0, .int .i64 0, .int .i64 0, .int .i64 0, .slice none 0 0] 50)).seg
  have HF := Lib.hid hf
  clear hf
  go_enter Tryd.func21, Tryd.ntmps21
  go_wp2_with ((apply load_by rfl _ _ rfl _ rfl); (focus (with_reducible assumption)))
  refine at_world (fun W => Ext w W ∧ Blk W (w.heap.size + 1) 50 #[.int .i64 0, .int .i64 0, .int .i64 0, .int .i64 0, .int .i64 0, .int .i64 0, .int .i64 0, .slice none 0 0]) ⟨((Ext.refl w).alloc _).alloc _, Blk.at _ _ _ (by simp)⟩ ?_
  rintro W1 ⟨E1, KR⟩
  clear KB lB
  refine (shcheck_any s a n c W1).mono ?_
  rintro e W2 ⟨hc, q2⟩
  unfold ShChk at hc
  subst hc
  rw [errOf_ne HF.out]
  generalize hq : Pl.shFault s n = q
  have HQ := Lib.hid hq
  clear hq
  have E2 := E1.trans q2
  have KR2 := KR.ext q2
  have s0 := sto0 KR2
  unfold errv
  go_wp2_with ((apply store_by rfl _ _ _ rfl _ rfl); (focus (with_reducible assumption)); (focus rfl))
  refine bodyPost_ret (results_cell2 Tryd.results21 _ _ (w.heap.size + 1) 50 #[.int .i64 0, .int .i64 0, .int .i64 0, .int .i64 0, .int .i64 0, .int .i64 0, .int .i64 0, .slice none 0 0] _ rfl (KR2.row _) Tryd.underlying50 rfl Tryd.sizeSeg) rfl ⟨by rw [HQ.out]; rfl, E2.row (by omega) _⟩

set_option maxRecDepth 100000 in
set_option maxHeartbeats 2000000 in
theorem down_state (g : Nat) (h : Value) (start : Int) (heard : Bool) (s : Sg) (a : Option Addr) (n c : Nat) (w : World) (hf : Pl.shFault s n = 0) (K : StB w g h start false heard) :
    Calls Tryd.prog 21 #[.pointer (some ⟨g, 0, none⟩), s.v (.slice a n c)] w fun e w' => SegErr 9 e ∧ Ext w w' := by
  have KB := Blk.new w 50 (s.cells (.slice a n c))
  have lB := (KB.alloc (.cells #[.int .i64 0, .int .i64 0, .int .i64 0, .int .i64 0, .int .i64 0, .int .i64 0, .int .i64 0, .slice none 0 0] 50)).seg
  have HF := Lib.hid hf
  clear hf
  go_enter Tryd.func21, Tryd.ntmps21
  go_wp2_with ((apply load_by rfl _ _ rfl _ rfl); (focus (with_reducible assumption)))
  refine at_world (fun W => Ext w W ∧ Blk W (w.heap.size + 1) 50 #[.int .i64 0, .int .i64 0, .int .i64 0, .int .i64 0, .int .i64 0, .int .i64 0, .int .i64 0, .slice none 0 0]) ⟨((Ext.refl w).alloc _).alloc _, Blk.at _ _ _ (by simp)⟩ ?_
  rintro W1 ⟨E1, KR⟩
  clear KB lB
  refine (shcheck_any s a n c W1).mono ?_
  rintro e W2 ⟨hc, q2⟩
  unfold ShChk at hc
  subst hc
  rw [HF.out, errOf_zero]
  have E2 := E1.trans q2
  have KR2 := KR.ext q2
  have s0 := sto0 KR2
  have c2 : W2.cell? ⟨g, 2, none⟩ = some (.bool false) := Blk.cells (Blk.ext K E2) 2
  clear K
  go_wp2_with ((apply store_by rfl _ _ _ rfl _ rfl); (focus (with_reducible assumption)); (focus rfl))
  refine bodyPost_ret (results_cell2 Tryd.results21 _ _ (w.heap.size + 1) 50 #[.int .i64 0, .int .i64 0, .int .i64 0, .int .i64 0, .int .i64 0, .int .i64 0, .int .i64 0, .slice none 0 0] _ rfl (KR2.row _) Tryd.underlying50 rfl Tryd.sizeSeg) rfl ⟨rfl, E2.row (by omega) _⟩

theorem Own.row {w : World} {B : Nat} {v : Value} {xs : List Int} (h : Own w B v xs) {k : Nat} (hk : ∀ j, v.ownBlock = some j → j ≠ k) (cs : Array Value) : Own (w.setRow k cs) B v xs := by
  refine ⟨h.1, ?_⟩
  rcases h.2 with hn | ⟨g, cap, cur, rfl, hg, hh, rest⟩
  · exact .inl hn
  · exact .inr ⟨g, cap, cur, rfl, hg, by rw [setRow_other _ _ _ _ (hk g rfl)]; exact hh, rest⟩
theorem Own.off {w : World} {B : Nat} {v : Value} {xs : List Int} (h : Own w B v xs) {p : Addr} (hk : ∀ j, v.ownBlock = some j → j ≠ p.block) (u : Value) : Own (w.setCell p u) B v xs := by
  refine ⟨h.1, ?_⟩
  rcases h.2 with hn | ⟨g, cap, cur, rfl, hg, hh, rest⟩
  · exact .inl hn
  · exact .inr ⟨g, cap, cur, rfl, hg, (Below.heap_setCell w p u g (hk g rfl)).trans hh, rest⟩
theorem Ext.only {a b : World} (h : Ext a b) (g : Nat) : a.grownBy b (some g) := ⟨h.os, h.tape, h.output, h.size, fun i hi _ => h.block i hi⟩
/-- The segment that goes down, its bytes copied. -/
def SegGot (w : World) (s : Sg) (xs : List Int) (e : Ending) (w' : World) : Prop := ∃ v, e = .returned (.tuple #[.agg (s.cells v), .nilIface]) ∧ Own w' w.heap.size v xs

set_option maxRecDepth 100000 in
set_option maxHeartbeats 4000000 in
theorem down_ok (g : Nat) (h : Value) (start : Int) (heard : Bool) (s : Sg) (a : Option Addr) (n c : Nat) (xs : List Int) (w : World) (hf : Pl.shFault s n = 0) (K : StB w g h start true heard) (hst : 0 ≤ start ∧ start < 4294967296)
    (hx : Ints .u8 w a n xs) (hc : a = none → c = 0) :
    Calls Tryd.prog 21 #[.pointer (some ⟨g, 0, none⟩), s.v (.slice a n c)] w fun e w' =>
      (s.flags / 16 % 2 = 0 → SegGot w s xs e w' ∧ Ext w w') ∧
      (s.flags / 16 % 2 = 1 → aheadB s.ack start = true → SegGot w { s with ack := start } xs e w' ∧ Ext w w') ∧
      (s.flags / 16 % 2 = 1 → aheadB s.ack start = false → SegGot w s xs e w' ∧ StB w' g h start true true ∧ w.grownBy w' (some g)) := by
  have KB := Blk.new w 50 (s.cells (.slice a n c))
  have lB := (KB.alloc (.cells #[.int .i64 0, .int .i64 0, .int .i64 0, .int .i64 0, .int .i64 0, .int .i64 0, .int .i64 0, .slice none 0 0] 50)).seg
  have KB1 := KB.alloc (.cells #[.int .i64 0, .int .i64 0, .int .i64 0, .int .i64 0, .int .i64 0, .int .i64 0, .int .i64 0, .slice none 0 0] 50)
  have HF := Lib.hid hf
  obtain ⟨-, -, ⟨k0, k1⟩, ⟨f0, f1⟩, hn⟩ := shFault_ok hf
  have HX := Lib.hid hx
  have HC := Lib.hid hc
  obtain ⟨s0, s1⟩ := hst
  have hgl := K.lt
  clear hf hx hc
  go_enter Tryd.func21, Tryd.ntmps21
  go_wp2_with ((apply load_by rfl _ _ rfl _ rfl); (focus (with_reducible assumption)))
  refine at_world (fun W => Ext w W ∧ Blk W (w.heap.size + 1) 50 #[.int .i64 0, .int .i64 0, .int .i64 0, .int .i64 0, .int .i64 0, .int .i64 0, .int .i64 0, .slice none 0 0] ∧ Blk W w.heap.size 50 (s.cells (.slice a n c))) ⟨((Ext.refl w).alloc _).alloc _, Blk.at _ _ _ (by simp), KB1⟩ ?_
  rintro W1 ⟨E1, KR, KS⟩
  clear KB KB1 lB
  refine (shcheck_any s a n c W1).mono ?_
  rintro e W2 ⟨hc, q2⟩
  unfold ShChk at hc
  subst hc
  rw [HF.out, errOf_zero]
  have E2 := E1.trans q2
  have KR2 := KR.ext q2
  have KS2 := KS.ext q2
  have c2 : W2.cell? ⟨g, 2, none⟩ = some (.bool true) := Blk.cells (Blk.ext K E2) 2
  obtain ⟨d0, d1, d2, d3, d4, d5, d6, d7⟩ := KS2.sg
  go_wp2_with fail
  clear d0 d1 d2 d3 d4 d5 d6 d7 c2
  refine (clone_any a n c xs W2 (HX.out.ext E2) HC.out (by omega)).mono ?_
  rintro e W3 ⟨v, rfl, o3, q3⟩
  obtain ⟨va, vn, vc, rfl, hvc, _⟩ := o3.read
  have E3 : Ext w W3 := E2.trans q3
  have KR3 := KR2.ext q3
  have KS3 := KS2.ext q3
  have KG3 : StB W3 g h start true heard := Blk.ext K E3
  obtain ⟨d0, d1, d2, d3, d4, d5, d6, d7⟩ := KS3.sg
  have df := KS3.free 7
  have hfl := flag16 f0 f1
  have o4 : Own (W3.setCell ⟨w.heap.size, 7, none⟩ (.slice va vn vc)) w.heap.size (.slice va vn vc) xs := by
    have := o3.setOther (p := ⟨w.heap.size, 7, none⟩) (by have := E2.size; have := KR2.lt; show w.heap.size < W2.heap.size; omega) (.slice va vn vc)
    exact this.mono E2.size
  have KS4 : Blk (W3.setCell ⟨w.heap.size, 7, none⟩ (.slice va vn vc)) w.heap.size 50 (s.cells (.slice va vn vc)) := KS3.put 7 _
  have KR4 : Blk (W3.setCell ⟨w.heap.size, 7, none⟩ (.slice va vn vc)) (w.heap.size + 1) 50 #[.int .i64 0, .int .i64 0, .int .i64 0, .int .i64 0, .int .i64 0, .int .i64 0, .int .i64 0, .slice none 0 0] := KR3.far (by show w.heap.size + 1 ≠ w.heap.size; omega) _
  have KG4 : StB (W3.setCell ⟨w.heap.size, 7, none⟩ (.slice va vn vc)) g h start true heard := Blk.far KG3 (by show g ≠ w.heap.size; omega) _
  have E4 : Ext w (W3.setCell ⟨w.heap.size, 7, none⟩ (.slice va vn vc)) := E3.set (p := ⟨w.heap.size, 7, none⟩) (Nat.le_refl _) _
  have hob : ∀ k, (Value.slice va vn vc).ownBlock = some k → k ≠ w.heap.size + 1 ∧ k ≠ w.heap.size ∧ k ≠ g := fun k hk => by
    have h1 := o3.lt k hk
    have h2 := KR2.lt
    have h3 := K.lt
    omega
  clear KS3 KR3 KG3 E3 o3 q3 hvc KS KR KS2 KR2 q2
  by_cases hA : s.flags / 16 % 2 = 0
  case pos =>
    have HA := Lib.hid hA
    have hfz : (16 * (s.flags / 16 % 2) == 0) = true := by rw [hA]; rfl
    have l4 := KS4.seg
    have t4 := sto KR4 s va vn vc
    clear hA
    go_wp2_with (first | ((apply load_by rfl _ _ rfl _ rfl); (focus (with_reducible assumption))) | ((apply store_by rfl _ _ _ rfl _ rfl); (focus (with_reducible assumption)); (focus rfl)))
    refine bodyPost_ret (results_cell2 Tryd.results21 _ _ (w.heap.size + 1) 50 _ _ rfl (KR4.row _) Tryd.underlying50 rfl Tryd.sizeSeg) rfl ?_
    refine ⟨fun _ => ⟨⟨_, rfl, o4.row (fun k hk => (hob k hk).1) _⟩, E4.row (by omega) _⟩, fun h1 => ?_, fun h1 => ?_⟩
    · have := HA.out; omega
    · have := HA.out; omega
  case neg =>
    have hA1 : s.flags / 16 % 2 = 1 := by omega
    have HA := Lib.hid hA1
    have hfz : (16 * (s.flags / 16 % 2) == 0) = false := by rw [hA1]; rfl
    have e4 := KS4.sg.2.2.2.2.1
    have g1 : (W3.setCell ⟨w.heap.size, 7, none⟩ (.slice va vn vc)).cell? ⟨g, 1, none⟩ = some (.int .u32 start) := Blk.cells KG4 1
    have f4 := KS4.free 4
    have gf : (W3.setCell ⟨w.heap.size, 7, none⟩ (.slice va vn vc)).frozen? ⟨g, 3, none⟩ = false := Blk.free KG4 3
    have g3 : (W3.setCell ⟨w.heap.size, 7, none⟩ (.slice va vn vc)).cell? ⟨g, 3, none⟩ = some (.bool heard) := Blk.cells KG4 3
    have ewa : IntKind.u32.wrap s.ack = s.ack := IntWalk.u32_in _ (by omega)
    have ews : IntKind.i64.wrap start = start := IntWalk.i64_in _ (by omega)
    clear hA hA1
    by_cases hh : aheadB s.ack start = true
    case pos =>
      have HH := Lib.hid hh
      clear hh
      go_wp2_with fail
      go_quiet ((go_at_call 60; exact Calls.quiet_of_same (ahead_yes s.ack start _ ⟨k0, k1⟩ ⟨s0, s1⟩ HH.out)))
      go_upto_region 12 with (fail)
      have KS5 : Blk (((W3.setCell ⟨w.heap.size, 7, none⟩ (.slice va vn vc)).drewN nq).setCell ⟨w.heap.size, 4, none⟩ (.int .i64 start)) w.heap.size 50 ({ s with ack := start }.cells (.slice va vn vc)) := (KS4.drewN nq).put 4 _
      have KR5 := (KR4.drewN nq).far (p := ⟨w.heap.size, 4, none⟩) (by show w.heap.size + 1 ≠ w.heap.size; omega) (.int .i64 start)
      have E5 := (E4.drewN nq).set (p := ⟨w.heap.size, 4, none⟩) (Nat.le_refl _) (.int .i64 start)
      have o5 := (o4.drewN nq).off (p := ⟨w.heap.size, 4, none⟩) (fun k hk => (hob k hk).2.1) (.int .i64 start)
      have l5 := KS5.seg
      have t5 := sto KR5 { s with ack := start } va vn vc
      go_wp2_with (first | ((apply load_by rfl _ _ rfl _ rfl); (focus (with_reducible assumption))) | ((apply store_by rfl _ _ _ rfl _ rfl); (focus (with_reducible assumption)); (focus rfl)))
      refine bodyPost_ret (results_cell2 Tryd.results21 _ _ (w.heap.size + 1) 50 _ _ rfl (KR5.row _) Tryd.underlying50 rfl Tryd.sizeSeg) rfl ?_
      refine ⟨fun h0 => ?_, fun _ _ => ⟨⟨_, rfl, o5.row (fun k hk => (hob k hk).1) _⟩, E5.row (by omega) _⟩, fun _ h1 => ?_⟩
      · have := HA.out; omega
      · rw [HH.out] at h1; cases h1
    case neg =>
      have hh' : aheadB s.ack start = false := by simpa using hh
      have HH := Lib.hid hh'
      clear hh hh'
      go_wp2_with fail
      go_quiet ((go_at_call 60; exact Calls.quiet_of_same (ahead_no s.ack start _ ⟨k0, k1⟩ ⟨s0, s1⟩ HH.out)))
      go_upto_region 12 with (fail)
      have hgl := K.lt
      have KS5 := (KS4.drewN nq).far (p := ⟨g, 3, none⟩) (by show w.heap.size ≠ g; omega) (.bool true)
      have KG5 : StB (((W3.setCell ⟨w.heap.size, 7, none⟩ (.slice va vn vc)).drewN nq).setCell ⟨g, 3, none⟩ (.bool true)) g h start true true := (Blk.drewN KG4 nq).put 3 _
      have KR5 := (KR4.drewN nq).far (p := ⟨g, 3, none⟩) (by show w.heap.size + 1 ≠ g; omega) (.bool true)
      have G5 := only_set ((E4.drewN nq).only g) 3 (.bool true)
      have o5 := (o4.drewN nq).off (p := ⟨g, 3, none⟩) (fun k hk => (hob k hk).2.2) (.bool true)
      have l5 := KS5.seg
      have t5 := sto KR5 s va vn vc
      go_wp2_with (first | ((apply load_by rfl _ _ rfl _ rfl); (focus (with_reducible assumption))) | ((apply store_by rfl _ _ _ rfl _ rfl); (focus (with_reducible assumption)); (focus rfl)))
      refine bodyPost_ret (results_cell2 Tryd.results21 _ _ (w.heap.size + 1) 50 _ _ rfl (KR5.row _) Tryd.underlying50 rfl Tryd.sizeSeg) rfl ?_
      refine ⟨fun h0 => ?_, fun _ h1 => ?_, fun _ _ => ⟨⟨_, rfl, o5.row (fun k hk => (hob k hk).1) _⟩, Blk.farRow KG5 (by omega) _, only_row G5 (by omega) _⟩⟩
      · have := HA.out; omega
      · rw [HH.out] at h1; cases h1
end Go.Proofs.YtkjchddidpjjmaaDoor
/- The builtin copy into bytes that the call itself has made, at a step of a region. Conditions: as each lemma states them. -/
namespace Go.Proofs.YtkjchddidpjjmaaDoor
open Go.RowKit

theorem Tryd.sizeU8 : (Tryd.prog.info? 5).map (·.size) = some 1 := by kernel_rfl

theorem step_copy {w : World} {ops : Array Oper} {o : Oper} {a : Act} {K : Act → World → Prop} {Q : Exit → Act → World → Prop} {E : Prop} (hgd : o.guard = none) (d s : Operand)
    (ho : o.op = .call { callee := .builtin .copy, args := #[d, s], argTypes := #[40, 40] })
    (B g N cap lo m dc : Nat) (xs : List Int) (hown : Own w B (.slice (some ⟨g, 0, none⟩) N cap) xs) (hd : a.eval d = .slice (some ⟨g, lo, none⟩) m dc)
    (sp : Option Addr) (sc : Nat) (ys : List Int) (hs : a.eval s = .slice sp m sc) (hr : Ints .u8 w sp m ys) (hlo : lo + m ≤ N)
    (h : ∀ w', Own w' B (.slice (some ⟨g, 0, none⟩) N cap) (xs.take lo ++ (ys ++ xs.drop (lo + m))) → Below B w w' → K (a.put o.dst (goInt m)) w') :
    if Region.wanted o (yielded ops a.tmps) = true then Oper.wp Tryd.prog o a w K Q else E := by
  have hlen := hown.len
  obtain ⟨h1, h2⟩ := hown
  rcases h2 with ⟨h2, _⟩ | ⟨g', cap', cur, hv, hg, hh, hnc, hcap, hsz, htake⟩
  · cases h2
  · simp only [Value.slice.injEq, Option.some.injEq, Addr.mk.injEq, and_true] at hv
    obtain ⟨rfl, rfl, rfl⟩ := hv
    have hm : (bcells ys).length = m := by rw [bcells_length, hr.len]
    have hcl : cur.toList.length = cap := by simpa using hsz
    refine step_copy_splice hgd d s _ _ ho 5 Tryd.underlying40 Tryd.sizeU8 (some ⟨g, lo, none⟩) sp m dc m sc hd hs g lo cur.toList 5 (by simpa using hh) (bcells ys) (by rw [hm]; simp) ?_ (by rw [hm, hcl]; omega) (bcells_one ys) B w (Below.refl B w) hg ?_
    · intro hpos
      refine ⟨rfl, ?_⟩
      obtain ⟨b, off, rfl, _, hc⟩ := hr.at (by omega)
      refine ⟨_, rfl, fun j u hj => ?_⟩
      have hlt : j < m := by have := (List.getElem?_eq_some_iff.1 hj).1; omega
      have hlt' : j < ys.length := by rw [hr.len]; exact hlt
      rw [bcells, List.getElem?_map, List.getElem?_eq_getElem hlt'] at hj
      simp only [Option.map_some, Option.some.injEq] at hj
      rw [← hj, Addr.add_lit, hc j hlt]
      simp [List.getD, hlt']
    · intro w' hg' hb
      rw [hm]
      refine h w' ?_ hb
      have hl : (xs.take lo ++ (ys ++ xs.drop (lo + m))).length = xs.length := by
        simp only [List.length_append, List.length_take, List.length_drop, hr.len]; omega
      have hT : (splice cur.toList lo (bcells ys)).take xs.length = bcells (xs.take lo ++ (ys ++ xs.drop (lo + m))) := by
        have htake' : cur.toList.take xs.length = bcells xs := by rw [← htake]; simp
        unfold splice
        rw [hm]
        have e1 : cur.toList.take lo = bcells (xs.take lo) := by
          have : cur.toList.take lo = (cur.toList.take xs.length).take lo := by rw [List.take_take, Nat.min_eq_left (by omega)]
          rw [this, htake', bcells, bcells, List.map_take]
        have e2 : (cur.toList.drop (lo + m)).take (xs.length - (lo + m)) = bcells (xs.drop (lo + m)) := by
          have : (cur.toList.drop (lo + m)).take (xs.length - (lo + m)) = (cur.toList.take xs.length).drop (lo + m) := by rw [List.drop_take]
          rw [this, htake', bcells, bcells, List.map_drop]
        have lA : (bcells (xs.take lo)).length = lo := by rw [bcells_length, List.length_take]; omega
        rw [e1, List.take_append, List.take_append, lA, hm, List.take_of_length_le (l := bcells (xs.take lo)) (by rw [lA]; omega), List.take_of_length_le (l := bcells ys) (by rw [hm]; omega),
          show xs.length - lo - m = xs.length - (lo + m) from by omega, e2]
        simp [bcells]
      unfold Own
      rw [hl]
      refine ⟨by rw [bcells_length, hl]; omega, .inr ⟨g, cap, (splice cur.toList lo (bcells ys)).toArray, ?_, hg, hg'.out, by omega, hcap, ?_, ?_⟩⟩
      · rw [hlen]
      · rw [List.size_toArray, length_splice _ _ _ (by rw [hm, hcl]; omega), hcl]; omega
      · simpa using hT

end Go.Proofs.YtkjchddidpjjmaaDoor
/- The contracts of seg.number and of seg.Decode of bytes of no form. Conditions: as each theorem states them. -/
namespace Go.Proofs.YtkjchddidpjjmaaDoor
open Go.RowKit
set_option maxRecDepth 100000 in
set_option maxHeartbeats 800000 in
theorem snumber_any (a : Option Addr) (n c : Nat) (xs : List Int) (w : World) (hr : Ints .u8 w a n xs) (hb : Pl.IsB xs) (hn : 2 ≤ n) :
    Calls Tryd.prog 70 #[.slice a n c] w fun e w' => e = .returned (.int .i64 (Pl.at2 xs 0)) ∧ ∃ q, w' = w.drewN q := by
  obtain ⟨b, off, rfl, _, hc⟩ := hr.at (by omega)
  have h0 : w.cell? ⟨b, off, none⟩ = _ := hc 0 (by omega)
  have h1 := hc 1 (by omega)
  have b0 := hb.getD 0
  have b1 := hb.getD 1
  have HV := Lib.hid (show Pl.at2 xs 0 = xs.getD 0 0 * 256 + xs.getD 1 0 from rfl)
  generalize xs.getD 0 0 = x at *
  generalize xs.getD 1 0 = y at *
  obtain ⟨x0, x1⟩ := b0
  obtain ⟨y0, y1⟩ := b1
  have l0 : (0 : Int) < (n : Int) := by omega
  have l1 : (1 : Int) < (n : Int) := by omega
  clear hc hr hb
  go_enter Tryd.func70, Tryd.ntmps70
  go_wp2_with fail
  go_quiet (fail)
  go_wp2
  go_ret
  refine ⟨ret_int ?_, nq, rfl⟩
  rw [HV.out, or8 (x := x * 256) (y := y) (by omega) (by omega) (by omega) (by omega) (by omega)]

/-- The segment, its bytes. -/
def Pl.segV (k : Int) (xs : List Int) (over : Int) : Sg := if Pl.segQ k xs over = 0 then Pl.decSeg k xs else ⟨0, 0, 0, 0, 0, 0, 0⟩
def Pl.segD (k : Int) (xs : List Int) (over : Int) : List Int := if Pl.segQ k xs over = 0 then xs.drop (Pl.segSize k) else []
/-- What Decode gives. -/
def DecGot (k : Int) (xs : List Int) (over : Int) (w : World) (e : Ending) (w' : World) : Prop :=
  ∃ v, e = .returned (.tuple #[(Pl.segV k xs over).v v, erv (Pl.segQ k xs over)]) ∧ Own w' w.heap.size v (Pl.segD k xs over) ∧ Ext w w'
theorem decGot_bad {k over q : Int} {xs : List Int} {w w' : World} (h : Pl.segQ k xs over = q) (hq : q ≠ 0) (he : Ext w w') : DecGot k xs over w (.returned (.tuple #[.agg #[.int .i64 0, .int .i64 0, .int .i64 0, .int .i64 0, .int .i64 0, .int .i64 0, .int .i64 0, .slice none 0 0], errv q])) w' := by
  refine ⟨.slice none 0 0, ?_, ?_, he⟩
  · unfold Pl.segV
    rw [h, if_neg hq, erv_ne hq]
    rfl
  · unfold Pl.segD
    rw [h, if_neg hq]
    exact Own.nil _ _

set_option maxRecDepth 100000 in
set_option maxHeartbeats 2000000 in
theorem sdecode_bad (k : Int) (a : Option Addr) (n c : Nat) (xs : List Int) (over : Int) (w : World) (h : ¬ (k = 6 ∨ k = 17) ∨ ¬ Pl.Word over) :
    Calls Tryd.prog 34 #[.int .i64 k, .slice a n c, .int .i64 over] w (DecGot k xs over w) := by
  have HQ := Lib.hid (show Pl.segQ k xs over = 1 by unfold Pl.segQ; rw [if_pos h])
  have KR := Blk.new w 50 #[.int .i64 0, .int .i64 0, .int .i64 0, .int .i64 0, .int .i64 0, .int .i64 0, .int .i64 0, .slice none 0 0]
  have E0 : Ext w (w.alloc (.cells #[.int .i64 0, .int .i64 0, .int .i64 0, .int .i64 0, .int .i64 0, .int .i64 0, .int .i64 0, .slice none 0 0] 50)) := (Ext.refl w).alloc _
  have s0 := sto KR ⟨0, 0, 0, 0, 0, 0, 0⟩ none 0 0
  by_cases hk : k = 6 ∨ k = 17
  case neg =>
    have hkk : (k == 6 || k == 17) = false := by simp; omega
    clear h hk
    go_enter Tryd.func34, Tryd.ntmps34
    go_wp2_with fail
    refine (known_any _ _).mono ?_
    rintro e w' ⟨rfl, rfl⟩
    rw [hkk]
    go_wp2_with ((apply store_by rfl _ _ _ rfl _ rfl); (focus (with_reducible assumption)); (focus rfl))
    refine bodyPost_ret (results_cell2 Tryd.results34 _ _ w.heap.size 50 #[.int .i64 0, .int .i64 0, .int .i64 0, .int .i64 0, .int .i64 0, .int .i64 0, .int .i64 0, .slice none 0 0] _ rfl (KR.row _) Tryd.underlying50 rfl Tryd.sizeSeg) rfl (decGot_bad HQ.out (by decide) (E0.row (Nat.le_refl _) _))
  have hkk : (k == 6 || k == 17) = true := by simp; omega
  have HO := Lib.hid (show ¬ Pl.Word over from fun ho => by rcases h with h | h; exact h hk; exact h ho)
  clear h hk
  go_enter Tryd.func34, Tryd.ntmps34
  go_wp2_with fail
  refine (known_any _ _).mono ?_
  rintro e w' ⟨rfl, rfl⟩
  rw [hkk]
  go_wp2_with fail
  refine (sword_no over _ HO.out).mono ?_
  rintro e w' ⟨rfl, rfl⟩
  go_wp2_with ((apply store_by rfl _ _ _ rfl _ rfl); (focus (with_reducible assumption)); (focus rfl))
  refine bodyPost_ret (results_cell2 Tryd.results34 _ _ w.heap.size 50 #[.int .i64 0, .int .i64 0, .int .i64 0, .int .i64 0, .int .i64 0, .int .i64 0, .int .i64 0, .slice none 0 0] _ rfl (KR.row _) Tryd.underlying50 rfl Tryd.sizeSeg) rfl (decGot_bad HQ.out (by decide) (E0.row (Nat.le_refl _) _))
theorem head_6 (w : World) : Calls Tryd.prog 69 #[.int .i64 6] w fun e w' => e = .returned (.tuple #[.int .i64 20, .int .i64 16]) ∧ w = w' := head_any 6 w (.inl rfl)
theorem head_17 (w : World) : Calls Tryd.prog 69 #[.int .i64 17] w fun e w' => e = .returned (.tuple #[.int .i64 8, .int .i64 6]) ∧ w = w' := head_any 17 w (.inr rfl)

set_option maxRecDepth 100000 in
set_option maxHeartbeats 2000000 in
theorem sdecode_short6 (a : Option Addr) (n c : Nat) (xs : List Int) (over : Int) (w : World) (hr : Ints .u8 w a n xs) (ho : Pl.Word over) (h : n < 20 ∨ 320 < n) :
    Calls Tryd.prog 34 #[.int .i64 6, .slice a n c, .int .i64 over] w (DecGot 6 xs over w) := by
  have hl := hr.len
  have HQ := Lib.hid (show Pl.segQ 6 xs over = 5 by
    unfold Pl.segQ
    rw [if_neg (by rintro (h1 | h1); exact h1 (by decide); exact h1 ho), if_pos]
    rintro ⟨h2, _⟩
    rw [show Pl.segSize 6 = 20 from rfl] at h2
    omega)
  have KR := Blk.new w 50 #[.int .i64 0, .int .i64 0, .int .i64 0, .int .i64 0, .int .i64 0, .int .i64 0, .int .i64 0, .slice none 0 0]
  have E0 : Ext w (w.alloc (.cells #[.int .i64 0, .int .i64 0, .int .i64 0, .int .i64 0, .int .i64 0, .int .i64 0, .int .i64 0, .slice none 0 0] 50)) := (Ext.refl w).alloc _
  have s0 := sto KR ⟨0, 0, 0, 0, 0, 0, 0⟩ none 0 0
  have HO := Lib.hid ho
  clear ho
  rcases h with h | h
  · have h' : (n : Int) < 20 := by omega
    clear h
    go_enter Tryd.func34, Tryd.ntmps34
    go_wp2_with fail
    refine (known_any _ _).mono ?_
    rintro e w' ⟨rfl, rfl⟩
    go_wp2_with fail
    refine (sword_yes over _ HO.out).mono ?_
    rintro e w' ⟨rfl, rfl⟩
    go_wp2_with fail
    refine (head_6 _).mono ?_
    rintro e w' ⟨rfl, rfl⟩
    go_wp2_with ((apply store_by rfl _ _ _ rfl _ rfl); (focus (with_reducible assumption)); (focus rfl))
    refine bodyPost_ret (results_cell2 Tryd.results34 _ _ w.heap.size 50 #[.int .i64 0, .int .i64 0, .int .i64 0, .int .i64 0, .int .i64 0, .int .i64 0, .int .i64 0, .slice none 0 0] _ rfl (KR.row _) Tryd.underlying50 rfl Tryd.sizeSeg) rfl (decGot_bad HQ.out (by decide) (E0.row (Nat.le_refl _) _))
  · have h' : (320 : Int) < (n : Int) := by omega
    have h'' : ¬ (n : Int) < 20 := by omega
    clear h
    go_enter Tryd.func34, Tryd.ntmps34
    go_wp2_with fail
    refine (known_any _ _).mono ?_
    rintro e w' ⟨rfl, rfl⟩
    go_wp2_with fail
    refine (sword_yes over _ HO.out).mono ?_
    rintro e w' ⟨rfl, rfl⟩
    go_wp2_with fail
    refine (head_6 _).mono ?_
    rintro e w' ⟨rfl, rfl⟩
    go_wp2_with ((apply store_by rfl _ _ _ rfl _ rfl); (focus (with_reducible assumption)); (focus rfl))
    refine bodyPost_ret (results_cell2 Tryd.results34 _ _ w.heap.size 50 #[.int .i64 0, .int .i64 0, .int .i64 0, .int .i64 0, .int .i64 0, .int .i64 0, .int .i64 0, .slice none 0 0] _ rfl (KR.row _) Tryd.underlying50 rfl Tryd.sizeSeg) rfl (decGot_bad HQ.out (by decide) (E0.row (Nat.le_refl _) _))

set_option maxRecDepth 100000 in
set_option maxHeartbeats 2000000 in
theorem sdecode_short17 (a : Option Addr) (n c : Nat) (xs : List Int) (over : Int) (w : World) (hr : Ints .u8 w a n xs) (ho : Pl.Word over) (h : n < 8 ∨ 308 < n) :
    Calls Tryd.prog 34 #[.int .i64 17, .slice a n c, .int .i64 over] w (DecGot 17 xs over w) := by
  have hl := hr.len
  have HQ := Lib.hid (show Pl.segQ 17 xs over = 5 by
    unfold Pl.segQ
    rw [if_neg (by rintro (h1 | h1); exact h1 (by decide); exact h1 ho), if_pos]
    rintro ⟨h2, _⟩
    rw [show Pl.segSize 17 = 8 from rfl] at h2
    omega)
  have KR := Blk.new w 50 #[.int .i64 0, .int .i64 0, .int .i64 0, .int .i64 0, .int .i64 0, .int .i64 0, .int .i64 0, .slice none 0 0]
  have E0 : Ext w (w.alloc (.cells #[.int .i64 0, .int .i64 0, .int .i64 0, .int .i64 0, .int .i64 0, .int .i64 0, .int .i64 0, .slice none 0 0] 50)) := (Ext.refl w).alloc _
  have s0 := sto KR ⟨0, 0, 0, 0, 0, 0, 0⟩ none 0 0
  have HO := Lib.hid ho
  clear ho
  rcases h with h | h
  · have h' : (n : Int) < 8 := by omega
    clear h
    go_enter Tryd.func34, Tryd.ntmps34
    go_wp2_with fail
    refine (known_any _ _).mono ?_
    rintro e w' ⟨rfl, rfl⟩
    go_wp2_with fail
    refine (sword_yes over _ HO.out).mono ?_
    rintro e w' ⟨rfl, rfl⟩
    go_wp2_with fail
    refine (head_17 _).mono ?_
    rintro e w' ⟨rfl, rfl⟩
    go_wp2_with ((apply store_by rfl _ _ _ rfl _ rfl); (focus (with_reducible assumption)); (focus rfl))
    refine bodyPost_ret (results_cell2 Tryd.results34 _ _ w.heap.size 50 #[.int .i64 0, .int .i64 0, .int .i64 0, .int .i64 0, .int .i64 0, .int .i64 0, .int .i64 0, .slice none 0 0] _ rfl (KR.row _) Tryd.underlying50 rfl Tryd.sizeSeg) rfl (decGot_bad HQ.out (by decide) (E0.row (Nat.le_refl _) _))
  · have h' : (308 : Int) < (n : Int) := by omega
    have h'' : ¬ (n : Int) < 8 := by omega
    clear h
    go_enter Tryd.func34, Tryd.ntmps34
    go_wp2_with fail
    refine (known_any _ _).mono ?_
    rintro e w' ⟨rfl, rfl⟩
    go_wp2_with fail
    refine (sword_yes over _ HO.out).mono ?_
    rintro e w' ⟨rfl, rfl⟩
    go_wp2_with fail
    refine (head_17 _).mono ?_
    rintro e w' ⟨rfl, rfl⟩
    go_wp2_with ((apply store_by rfl _ _ _ rfl _ rfl); (focus (with_reducible assumption)); (focus rfl))
    refine bodyPost_ret (results_cell2 Tryd.results34 _ _ w.heap.size 50 #[.int .i64 0, .int .i64 0, .int .i64 0, .int .i64 0, .int .i64 0, .int .i64 0, .int .i64 0, .slice none 0 0] _ rfl (KR.row _) Tryd.underlying50 rfl Tryd.sizeSeg) rfl (decGot_bad HQ.out (by decide) (E0.row (Nat.le_refl _) _))
end Go.Proofs.YtkjchddidpjjmaaDoor
/- The contract of ip6.Decode of bytes that are a packet. Conditions: as each theorem states them. -/
namespace Go.Proofs.YtkjchddidpjjmaaDoor
open Go.RowKit
theorem Own.rowOff {w : World} {B : Nat} {v : Value} {xs : List Int} (h : Own w B v xs) {k : Nat} (hk : ∀ j, v.ownBlock = some j → j ≠ k) (cs : Array Value) : Own (w.setRow k cs) B v xs := by
  refine ⟨h.1, ?_⟩
  rcases h.2 with hn | ⟨g, cap, cur, rfl, hg, hh, rest⟩
  · exact .inl hn
  · exact .inr ⟨g, cap, cur, rfl, hg, by rw [setRow_other _ _ _ _ (hk g rfl)]; exact hh, rest⟩
/-- At a store whose run is known, in a region. -/
theorem wp_store_by {P : Program} {o : Oper} {a : Act} {w : World} {K : Act → World → Prop} {Q : Exit → Act → World → Prop} (ty : TypeId) (x y : Operand) (ho : o.op = .store ty x y) (p : Addr) (hx : a.eval x = .pointer (some p)) {v : Value} {w' : World}
    (h : (Instr.storeAt ty (.pointer (some p)) v).run P w = .ok () w') (hy : a.eval y = v) (k : K (a.put o.dst undef) w') : Oper.wp P o a w K Q := by
  unfold Oper.wp execOp
  simp only [ho, hx, hy, Sem.run_bind, h, Result.andThen_ok, Sem.run_pure]
  exact k

theorem cell_far {w : World} {p q : Addr} (h : ¬ p.block = q.block) (u : Value) : (w.setCell q u).cell? p = w.cell? p := World.cell?_of_block (Below.heap_setCell w q u p.block h)
theorem z19_cells {w : World} {g : Nat} {t : TypeId} (h : Blk w g t #[.int .i64 0, .int .i64 0, .int .i64 0, .int .i64 0, .int .i64 0, .int .i64 0, .int .i64 0, .int .i64 0, .int .i64 0, .int .i64 0, .int .i64 0, .int .i64 0, .int .i64 0, .int .i64 0, .int .i64 0, .int .i64 0, .int .i64 0, .int .i64 0, .slice none 0 0]) : w.cell? ⟨g, 0, none⟩ = some (.int .i64 0) ∧ w.cell? ⟨g, 1, none⟩ = some (.int .i64 0) ∧ w.cell? ⟨g, 2, none⟩ = some (.int .i64 0) ∧ w.cell? ⟨g, 3, none⟩ = some (.int .i64 0) ∧ w.cell? ⟨g, 4, none⟩ = some (.int .i64 0) ∧ w.cell? ⟨g, 5, none⟩ = some (.int .i64 0) ∧ w.cell? ⟨g, 6, none⟩ = some (.int .i64 0) ∧ w.cell? ⟨g, 7, none⟩ = some (.int .i64 0) ∧ w.cell? ⟨g, 8, none⟩ = some (.int .i64 0) ∧ w.cell? ⟨g, 9, none⟩ = some (.int .i64 0) ∧ w.cell? ⟨g, 10, none⟩ = some (.int .i64 0) ∧ w.cell? ⟨g, 11, none⟩ = some (.int .i64 0) ∧ w.cell? ⟨g, 12, none⟩ = some (.int .i64 0) ∧ w.cell? ⟨g, 13, none⟩ = some (.int .i64 0) ∧ w.cell? ⟨g, 14, none⟩ = some (.int .i64 0) ∧ w.cell? ⟨g, 15, none⟩ = some (.int .i64 0) ∧ w.cell? ⟨g, 16, none⟩ = some (.int .i64 0) ∧ w.cell? ⟨g, 17, none⟩ = some (.int .i64 0) ∧ w.cell? ⟨g, 18, none⟩ = some (.slice none 0 0) :=
  ⟨h.cells 0, h.cells 1, h.cells 2, h.cells 3, h.cells 4, h.cells 5, h.cells 6, h.cells 7, h.cells 8, h.cells 9, h.cells 10, h.cells 11, h.cells 12, h.cells 13, h.cells 14, h.cells 15, h.cells 16, h.cells 17, h.cells 18⟩
theorem z19_free {w : World} {g : Nat} {t : TypeId} (h : Blk w g t #[.int .i64 0, .int .i64 0, .int .i64 0, .int .i64 0, .int .i64 0, .int .i64 0, .int .i64 0, .int .i64 0, .int .i64 0, .int .i64 0, .int .i64 0, .int .i64 0, .int .i64 0, .int .i64 0, .int .i64 0, .int .i64 0, .int .i64 0, .int .i64 0, .slice none 0 0]) : w.frozen? ⟨g, 0, none⟩ = false ∧ w.frozen? ⟨g, 1, none⟩ = false ∧ w.frozen? ⟨g, 2, none⟩ = false ∧ w.frozen? ⟨g, 3, none⟩ = false ∧ w.frozen? ⟨g, 4, none⟩ = false ∧ w.frozen? ⟨g, 5, none⟩ = false ∧ w.frozen? ⟨g, 6, none⟩ = false ∧ w.frozen? ⟨g, 7, none⟩ = false ∧ w.frozen? ⟨g, 8, none⟩ = false ∧ w.frozen? ⟨g, 9, none⟩ = false ∧ w.frozen? ⟨g, 10, none⟩ = false ∧ w.frozen? ⟨g, 11, none⟩ = false ∧ w.frozen? ⟨g, 12, none⟩ = false ∧ w.frozen? ⟨g, 13, none⟩ = false ∧ w.frozen? ⟨g, 14, none⟩ = false ∧ w.frozen? ⟨g, 15, none⟩ = false ∧ w.frozen? ⟨g, 16, none⟩ = false ∧ w.frozen? ⟨g, 17, none⟩ = false ∧ w.frozen? ⟨g, 18, none⟩ = false :=
  ⟨h.free 0, h.free 1, h.free 2, h.free 3, h.free 4, h.free 5, h.free 6, h.free 7, h.free 8, h.free 9, h.free 10, h.free 11, h.free 12, h.free 13, h.free 14, h.free 15, h.free 16, h.free 17, h.free 18⟩

end Go.Proofs.YtkjchddidpjjmaaDoor
