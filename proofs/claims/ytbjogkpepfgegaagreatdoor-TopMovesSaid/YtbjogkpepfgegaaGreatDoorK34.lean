/- Closing a packet: cross.Close4, cross.Close6. Conditions: as each theorem states them (the segment and the addresses may be). -/
import Derived.Test.YtbjogkpepfgegaaGreatDoorK32
import Derived.Test.YtbjogkpepfgegaaGreatDoorK17
namespace Go.Proofs.YtbjogkpepfgegaaGreatDoor
open Go.RowKit
namespace Pl
theorem segSize_le (k : Int) : segSize k ≤ 20 := by unfold segSize; split <;> omega
end Pl
/-- What stands over a segment of n bytes between fours. -/
def ov4 (s : Sg) (src dst : Int) (n : Nat) : Int := val4 src dst s.kind ((Pl.segSize s.kind : Int) + (n : Int))
def ov6 (s : Sg) (src dst : Six) (n : Nat) : Int := val6 src dst s.kind ((Pl.segSize s.kind : Int) + (n : Int))
def body4 (s : Sg) (src dst : Int) (xs : List Int) : List Int := Pl.segBytes s (Pl.segCheck s (ov4 s src dst xs.length) xs) xs
def body6 (s : Sg) (src dst : Six) (xs : List Int) : List Int := Pl.segBytes s (Pl.segCheck s (ov6 s src dst xs.length) xs) xs
theorem ok4_seg {s : Sg} {src dst : Int} {n : Nat} (hok : Pl.SegOk s n) (hs : 0 ≤ src ∧ src < 4294967296) (hd : 0 ≤ dst ∧ dst < 4294967296) : ok4 src dst s.kind ((Pl.segSize s.kind : Int) + (n : Int)) = true := by
  have h1 : w32 src = true := by unfold w32; simp; omega
  have h2 : w32 dst = true := by unfold w32; simp; omega
  have h3 := Pl.segSize_le s.kind
  have h4 := hok.2.2.2.2.2.2.2.2
  have h5 := hok.1
  unfold ok4 okO w8
  rw [h1, h2]
  simp
  omega
theorem ok6_seg {s : Sg} {src dst : Six} {n : Nat} (hok : Pl.SegOk s n) (hs : okS src = true) (hd : okS dst = true) : ok6 src dst s.kind ((Pl.segSize s.kind : Int) + (n : Int)) = true := by
  have h3 := Pl.segSize_le s.kind
  have h4 := hok.2.2.2.2.2.2.2.2
  have h5 := hok.1
  unfold ok6 okO w8
  rw [hs, hd]
  simp
  omega
theorem over4_seg (s : Sg) (src dst : Int) (n : Nat) (w : World) (hok : Pl.SegOk s n) (hs : 0 ≤ src ∧ src < 4294967296) (hd : 0 ≤ dst ∧ dst < 4294967296) :
    Calls Tryz.prog 36 #[.int .i64 src, .int .i64 dst, .int .i64 s.kind, .int .i64 ((Pl.segSize s.kind : Int) + (n : Int))] w fun e w' => e = .returned (.tuple #[.int .i64 (ov4 s src dst n), .nilIface]) ∧ Ext w w' := by
  have := over4_any src dst s.kind ((Pl.segSize s.kind : Int) + (n : Int)) w
  rw [ok4_seg hok hs hd] at this
  exact this
theorem over6_seg (s : Sg) (src dst : Six) (n : Nat) (w : World) (hok : Pl.SegOk s n) (hs : okS src = true) (hd : okS dst = true) :
    Calls Tryz.prog 24 #[src.v, dst.v, .int .i64 s.kind, .int .i64 ((Pl.segSize s.kind : Int) + (n : Int))] w fun e w' => e = .returned (.tuple #[.int .i64 (ov6 s src dst n), .nilIface]) ∧ Ext w w' := by
  have := over6_any src dst s.kind ((Pl.segSize s.kind : Int) + (n : Int)) w
  rw [ok6_seg hok hs hd] at this
  exact this
theorem enc_seg (s : Sg) (a : Option Addr) (n c : Nat) (xs : List Int) (over : Int) (w : World) (hok : Pl.SegOk s n) (hr : Ints .u8 w a n xs) (hb : Pl.IsB xs) (ho : Pl.Word over) :
    Calls Tryz.prog 25 #[s.v (.slice a n c), .int .i64 over] w fun e w' => ∃ a' n' c', e = .returned (.tuple #[.slice a' n' c', .nilIface]) ∧ Own w' w.heap.size (.slice a' n' c') (Pl.segBytes s (Pl.segCheck s over xs) xs) ∧ Ext w w' := by
  have hF : Pl.encF s over xs.length = 0 := Pl.encF_ok (by rw [hr.len]; exact hok) ho
  refine (sEncode_any s a n c xs over w hr hb).mono ?_
  rintro e w' ⟨v, rfl, o, q⟩
  unfold Pl.encB at o
  rw [hF, if_pos rfl] at o
  rw [hF]
  obtain ⟨a', n', c', rfl, _, _⟩ := o.read
  exact ⟨a', n', c', rfl, o, q⟩
set_option maxRecDepth 100000 in
set_option maxHeartbeats 4000000 in
theorem close4_any (s : Sg) (src dst ttl : Int) (a : Option Addr) (n c : Nat) (xs : List Int) (w : World) (hok : Pl.SegOk s n) (hs : 0 ≤ src ∧ src < 4294967296) (hd : 0 ≤ dst ∧ dst < 4294967296) (hr : Ints .u8 w a n xs) (hb : Pl.IsB xs) :
    Calls Tryz.prog 33 #[s.v (.slice a n c), .int .i64 src, .int .i64 dst, .int .i64 ttl] w fun e w' => ∃ a' n' c', e = .returned (.tuple #[pk4 src dst ttl s.kind 0 (.slice a' n' c'), .nilIface]) ∧ Own w' w.heap.size (.slice a' n' c') (body4 s src dst xs) ∧ Ext w w' := by
  have KS := (Blk.new w 40 (s.cells (.slice a n c))).alloc (.cells (c4 0 0 0 0 0 (.slice none 0 0)) 44)
  have KR := Blk.at (n := w.heap.size + 1) (w.alloc (.cells (s.cells (.slice a n c)) 40)) 44 (c4 0 0 0 0 0 (.slice none 0 0)) (by simp)
  have E0 : Ext w _ := ((Ext.refl w).alloc (.cells (s.cells (.slice a n c)) 40)).alloc (.cells (c4 0 0 0 0 0 (.slice none 0 0)) 44)
  have HOK := Lib.hid hok
  have HR := Lib.hid hr
  have HB := Lib.hid hb
  have HL := Lib.hid hr.len
  have HO4 := Lib.hid (fun (W : World) => over4_seg s src dst n W hok hs hd)
  have h3 := Pl.segSize_le s.kind
  have h4 := hok.2.2.2.2.2.2.2.2
  have HBD := Lib.hid (show Pl.segBytes s (Pl.segCheck s (ov4 s src dst n) xs) xs = body4 s src dst xs by unfold body4; rw [HL.out])
  have HWO := Lib.hid (show Pl.Word (ov4 s src dst n) from val4_word)
  generalize ov4 s src dst n = O at *
  obtain ⟨c0, c1, c2, c3, c4', c5, c6, c7⟩ := KS.sg
  clear c1 c2 c3 c4' c5 c6 hok hr hb
  go_enter Tryz.func33, Tryz.ntmps33
  go_wp2_with fail
  refine (head_any s.kind _ HOK.out.1).mono ?_
  rintro e w' ⟨rfl, rfl⟩
  generalize Pl.segSize s.kind = Z at *
  have ew : IntKind.i64.wrap ((Z : Int) + (n : Int)) = (Z : Int) + (n : Int) := IntWalk.i64_in _ (by omega)
  go_wp2_with fail
  refine (HO4.out _).mono ?_
  rintro e W2 ⟨rfl, q2⟩
  have K2 := KS.ext q2
  have KR2 := KR.ext q2
  have E2 := E0.trans q2
  have ld := K2.seg
  clear c0 c7 KS KR E0 q2
  go_wp2_with ((apply load_by rfl _ _ rfl _ rfl); (focus (with_reducible assumption)))
  refine (enc_seg s a n c xs O W2 HOK.out (HR.out.ext E2) HB.out HWO.out).mono ?_
  rintro e W3 ⟨a3, n3, d3, rfl, o3, q3⟩
  rw [HBD.out] at o3
  have K3 := K2.ext q3
  have KR3 := KR2.ext q3
  have E3 := E2.trans q3
  have hz2 := KR2.lt
  obtain ⟨c0, c1, c2, c3, c4', c5, c6, c7⟩ := K3.sg
  have st := sto4 KR3 src dst ttl s.kind 0 a3 n3 d3
  have KF := KR3.row (c4 src dst ttl s.kind 0 (.slice a3 n3 d3))
  have o4 := (o3.rowOff (k := w.heap.size + 1) (fun j hj => by have := (o3.lt j hj).1; omega) (c4 src dst ttl s.kind 0 (.slice a3 n3 d3))).mono E2.size
  have E4 := E3.row (k := w.heap.size + 1) (Nat.le_succ _) (c4 src dst ttl s.kind 0 (.slice a3 n3 d3))
  have HO := Lib.hid o4
  have HE := Lib.hid E4
  clear c1 c2 c3 c4' c5 c6 c7 K2 KR2 E2 q3 o3 E3 K3 KR3 o4 E4 ld
  go_wp2_with ((apply store_by rfl _ _ _ rfl _ rfl); (focus (with_reducible assumption)); (focus rfl))
  refine bodyPost_ret (results_cell2 Tryz.results33 _ _ (w.heap.size + 1) 44 (c4 src dst ttl s.kind 0 (.slice a3 n3 d3)) _ rfl KF Tryz.underlying44 rfl Tryz.sizeP4) rfl ⟨a3, n3, d3, rfl, HO.out, HE.out⟩

set_option maxRecDepth 100000 in
set_option maxHeartbeats 4000000 in
theorem close6_any (s : Sg) (src dst : Six) (hop : Int) (a : Option Addr) (n c : Nat) (xs : List Int) (w : World) (hok : Pl.SegOk s n) (hs : okS src = true) (hd : okS dst = true) (hr : Ints .u8 w a n xs) (hb : Pl.IsB xs) :
    Calls Tryz.prog 45 #[s.v (.slice a n c), src.v, dst.v, .int .i64 hop] w fun e w' => ∃ a' n' c', e = .returned (.tuple #[(⟨src, dst, hop, s.kind⟩ : P6).v (.slice a' n' c'), .nilIface]) ∧ Own w' w.heap.size (.slice a' n' c') (body6 s src dst xs) ∧ Ext w w' := by
  have KS := (((Blk.new w 40 (s.cells (.slice a n c))).alloc (.cells src.cells 23)).alloc (.cells dst.cells 23)).alloc (.cells #[.int .i64 0, .int .i64 0, .int .i64 0, .int .i64 0, .int .i64 0, .int .i64 0, .int .i64 0, .int .i64 0, .int .i64 0, .int .i64 0, .int .i64 0, .int .i64 0, .int .i64 0, .int .i64 0, .int .i64 0, .int .i64 0, .int .i64 0, .int .i64 0, .slice none 0 0] 61)
  have KA := ((Blk.at (n := w.heap.size + 1) (w.alloc (.cells (s.cells (.slice a n c)) 40)) 23 src.cells (by simp)).alloc (.cells dst.cells 23)).alloc (.cells #[.int .i64 0, .int .i64 0, .int .i64 0, .int .i64 0, .int .i64 0, .int .i64 0, .int .i64 0, .int .i64 0, .int .i64 0, .int .i64 0, .int .i64 0, .int .i64 0, .int .i64 0, .int .i64 0, .int .i64 0, .int .i64 0, .int .i64 0, .int .i64 0, .slice none 0 0] 61)
  have KB := (Blk.at (n := w.heap.size + 2) ((w.alloc (.cells (s.cells (.slice a n c)) 40)).alloc (.cells src.cells 23)) 23 dst.cells (by simp)).alloc (.cells #[.int .i64 0, .int .i64 0, .int .i64 0, .int .i64 0, .int .i64 0, .int .i64 0, .int .i64 0, .int .i64 0, .int .i64 0, .int .i64 0, .int .i64 0, .int .i64 0, .int .i64 0, .int .i64 0, .int .i64 0, .int .i64 0, .int .i64 0, .int .i64 0, .slice none 0 0] 61)
  have KR := Blk.at (n := w.heap.size + 3) (((w.alloc (.cells (s.cells (.slice a n c)) 40)).alloc (.cells src.cells 23)).alloc (.cells dst.cells 23)) 61 #[.int .i64 0, .int .i64 0, .int .i64 0, .int .i64 0, .int .i64 0, .int .i64 0, .int .i64 0, .int .i64 0, .int .i64 0, .int .i64 0, .int .i64 0, .int .i64 0, .int .i64 0, .int .i64 0, .int .i64 0, .int .i64 0, .int .i64 0, .int .i64 0, .slice none 0 0] (by simp)
  have E0 : Ext w _ := ((((Ext.refl w).alloc (.cells (s.cells (.slice a n c)) 40)).alloc (.cells src.cells 23)).alloc (.cells dst.cells 23)).alloc (.cells #[.int .i64 0, .int .i64 0, .int .i64 0, .int .i64 0, .int .i64 0, .int .i64 0, .int .i64 0, .int .i64 0, .int .i64 0, .int .i64 0, .int .i64 0, .int .i64 0, .int .i64 0, .int .i64 0, .int .i64 0, .int .i64 0, .int .i64 0, .int .i64 0, .slice none 0 0] 61)
  have HOK := Lib.hid hok
  have HR := Lib.hid hr
  have HB := Lib.hid hb
  have HL := Lib.hid hr.len
  have HO6 := Lib.hid (fun (W : World) => over6_seg s src dst n W hok hs hd)
  have h3 := Pl.segSize_le s.kind
  have h4 := hok.2.2.2.2.2.2.2.2
  have HBD := Lib.hid (show Pl.segBytes s (Pl.segCheck s (ov6 s src dst n) xs) xs = body6 s src dst xs by unfold body6; rw [HL.out])
  have HWO := Lib.hid (show Pl.Word (ov6 s src dst n) from val6_word)
  generalize ov6 s src dst n = O at *
  clear hok hr hb hs hd
  unfold Six.v at *
  go_enter Tryz.func45, Tryz.ntmps45
  go_upto_region 1 with (fail)
  refine at_worldE (fun W => Ext w W ∧ Blk W w.heap.size 40 (s.cells (.slice a n c)) ∧ Blk W (w.heap.size + 1) 23 src.cells ∧ Blk W (w.heap.size + 2) 23 dst.cells ∧ Blk W (w.heap.size + 3) 61 #[.int .i64 0, .int .i64 0, .int .i64 0, .int .i64 0, .int .i64 0, .int .i64 0, .int .i64 0, .int .i64 0, .int .i64 0, .int .i64 0, .int .i64 0, .int .i64 0, .int .i64 0, .int .i64 0, .int .i64 0, .int .i64 0, .int .i64 0, .int .i64 0, .slice none 0 0]) ⟨E0, KS, KA, KB, KR⟩ ?_
  clear E0 KS KA KB KR
  rintro W1 ⟨E1, KS, KA, KB, KR⟩
  obtain ⟨c0, c1, c2, c3, c4', c5, c6, c7⟩ := KS.sg
  clear c1 c2 c3 c4' c5 c6
  have la := KA.six0
  have lb := KB.six0
  go_wp2_with ((apply load_by rfl _ _ rfl _ rfl); (focus (with_reducible assumption)))
  refine (head_any s.kind _ HOK.out.1).mono ?_
  rintro e w' ⟨rfl, rfl⟩
  generalize Pl.segSize s.kind = Z at *
  have ew : IntKind.i64.wrap ((Z : Int) + (n : Int)) = (Z : Int) + (n : Int) := IntWalk.i64_in _ (by omega)
  go_wp2_with ((apply load_by rfl _ _ rfl _ rfl); (focus (with_reducible assumption)))
  refine (HO6.out _).mono ?_
  rintro e W2 ⟨rfl, q2⟩
  have K2 := KS.ext q2
  have KA2 := KA.ext q2
  have KB2 := KB.ext q2
  have KR2 := KR.ext q2
  have E2 := E1.trans q2
  have ld := K2.seg
  clear c0 c7 KS KA KB KR E1 q2 la lb
  go_wp2_with ((apply load_by rfl _ _ rfl _ rfl); (focus (with_reducible assumption)))
  refine (enc_seg s a n c xs O W2 HOK.out (HR.out.ext E2) HB.out HWO.out).mono ?_
  rintro e W3 ⟨a3, n3, d3, rfl, o3, q3⟩
  rw [HBD.out] at o3
  have K3 := K2.ext q3
  have KR3 := KR2.ext q3
  have la : (Instr.loadAt 23 (.pointer (some ⟨w.heap.size + 1, 0, none⟩))).run Tryz.prog W3 = .ok (.agg #[.int .i64 src.x0, .int .i64 src.x1, .int .i64 src.x2, .int .i64 src.x3, .int .i64 src.x4, .int .i64 src.x5, .int .i64 src.x6, .int .i64 src.x7]) W3 := (KA2.ext q3).six0
  have lb : (Instr.loadAt 23 (.pointer (some ⟨w.heap.size + 2, 0, none⟩))).run Tryz.prog W3 = .ok (.agg #[.int .i64 dst.x0, .int .i64 dst.x1, .int .i64 dst.x2, .int .i64 dst.x3, .int .i64 dst.x4, .int .i64 dst.x5, .int .i64 dst.x6, .int .i64 dst.x7]) W3 := (KB2.ext q3).six0
  have E3 := E2.trans q3
  have hz2 := KR2.lt
  have c0 : W3.cell? ⟨w.heap.size, 0, none⟩ = some (.int .i64 s.kind) := K3.cells 0
  have st := sto6l KR3 ⟨src, dst, hop, s.kind⟩ a3 n3 d3
  have KF := KR3.row ((⟨src, dst, hop, s.kind⟩ : P6).cells (.slice a3 n3 d3))
  have o4 := (o3.rowOff (k := w.heap.size + 3) (fun j hj => by have := (o3.lt j hj).1; omega) ((⟨src, dst, hop, s.kind⟩ : P6).cells (.slice a3 n3 d3))).mono E2.size
  have E4 := E3.row (k := w.heap.size + 3) (by omega) ((⟨src, dst, hop, s.kind⟩ : P6).cells (.slice a3 n3 d3))
  have HO := Lib.hid o4
  have HE := Lib.hid E4
  clear K2 KA2 KB2 KR2 E2 q3 o3 E3 K3 KR3 o4 E4 ld
  go_wp2_with (first | ((apply load_by rfl _ _ rfl _ rfl); (focus (with_reducible assumption))) | ((apply store_by rfl _ _ _ rfl _ rfl); (focus (with_reducible assumption)); (focus rfl)))
  refine bodyPost_ret (results_cell2 Tryz.results45 _ _ (w.heap.size + 3) 61 ((⟨src, dst, hop, s.kind⟩ : P6).cells (.slice a3 n3 d3)) _ rfl KF Tryz.underlying61 rfl Tryz.sizeP6) rfl ⟨a3, n3, d3, rfl, HO.out, HE.out⟩
end Go.Proofs.YtbjogkpepfgegaaGreatDoor
