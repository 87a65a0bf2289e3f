/- The document's answers of layer 1: BytesOf, OverOf. Conditions: as each theorem states them. -/
import Derived.Test.YtkjchddidpjjmaaDoorRef3
namespace Go.Proofs.YtkjchddidpjjmaaDoor
open Go.RowKit

set_option maxRecDepth 100000 in
set_option maxHeartbeats 2000000 in
theorem bytesOf_any (s : Six) (w : World) (h : s.Ok) :
    Calls Tryd.prog 46 #[s.v] w fun e w' => ∃ v, e = .returned v ∧ Own w' w.heap.size v (Pl.two s.l) ∧ Ext w w' := by
  have HO := Lib.hid h
  clear h
  unfold Six.v
  go_enter Tryd.func46, Tryd.ntmps46
  go_wp2_with fail
  have K0 := Blk.new w 23 s.cells
  go_loopw [3, 4] (fun v i wr => ∃ k : Nat, k ≤ 8 ∧ i = .int .i64 k ∧ Own wr (w.heap.size + 1) v (Pl.two (s.l.take k)) ∧ Blk wr w.heap.size 23 s.cells ∧ Ext w wr) (fun _ i _ => 8 - (intOf i).toNat)
  case atStart => exact ⟨0, Nat.zero_le _, rfl, Own.nil _ _, K0, (Ext.refl w).alloc _⟩
  case round =>
    obtain ⟨k, hk, rfl, ho, hK, hE⟩ := hrel
    clear K0
    have hsz := hE.size
    have hlt1 := hK.lt
    by_cases hlt : k < 8
    · have hcell : wr.cell? ⟨w.heap.size, k, none⟩ = some (.int .i64 (s.l.getD k 0)) := (hK.cells k).trans (s.cells_at k hlt)
      obtain ⟨x0, x1⟩ := HO.out.at k
      have hsn := Pl.two_snoc (s.l.take k) (s.l.getD k 0)
      rw [← take_snoc s.l k hlt] at hsn
      generalize s.l.getD k 0 = x at *
      have hlen : (Pl.two (s.l.take k)).length ≤ 100 := by
        have h1 := Pl.two_length (s.l.take k)
        have h2 : (s.l.take k).length ≤ k := List.length_take_le _ _
        omega
      have HLEN := Lib.hid hlen
      have HS := Lib.hid hsn
      have HV := Lib.hid ho
      have HE := Lib.hid hE
      have HK := Lib.hid hK
      have hlt' : (k : Int) < 8 := by omega
      have t1 : IntKind.i64.wrap (x.tdiv 256) = x / 256 := by rw [Int.tdiv_eq_ediv_of_nonneg x0]; exact IntWalk.i64_in _ (by omega)
      have t2 : IntKind.i64.wrap (x.tmod 256) = x % 256 := by rw [Int.tmod_eq_emod_of_nonneg x0]; exact IntWalk.i64_in _ (by omega)
      have t3 : x.tmod 256 = x % 256 := Int.tmod_eq_emod_of_nonneg x0
      have t4 : x.tdiv 256 = x / 256 := Int.tdiv_eq_ediv_of_nonneg x0
      have t5 : IntKind.i64.wrap (x / 256) = x / 256 := IntWalk.i64_in _ (by omega)
      have t6 : IntKind.i64.wrap (x % 256) = x % 256 := IntWalk.i64_in _ (by omega)
      have e1 : IntKind.u8.wrap (x / 256) = x / 256 := IntWalk.u8_in _ (by omega)
      have e2 : IntKind.u8.wrap (x % 256) = x % 256 := IntWalk.u8_in _ (by omega)
      have hB1 : w.heap.size + 1 ≤ wr.heap.size := by omega
      clear hsn hlen ho hE hK
      go_upto_region 5 with (fail)
      go_region_law (first | (refine step_app rfl (Operand.tmp 9) (Operand.tmp 20) rfl (w.heap.size + 1) _ (Pl.two (s.l.take k)) rfl (by first | exact HV.out.ext ((Ext.refl wr).alloc _) | exact HV.out.ext (((Ext.refl wr).alloc _).drew)) _ 2 2 [x / 256, x % 256] rfl ?_ (by have := HLEN.out; omega) ?_ ?_; go_must (first | exact ints_new wr _ _ _ _ _ rfl | exact (ints_new wr _ _ _ _ _ rfl).ext ((Ext.refl _).drew)); go_must (simp; omega); intro v' W' o' b'))
      all_goals
        rw [← HS.out] at o'
        have B1 : Below (w.heap.size + 1) wr W' := by first | exact Below.trans (Below.alloc (Below.refl _ _) hB1 _) b' | exact Below.trans (Below.drew (Below.alloc (Below.refl _ _) hB1 _)) b'
        have K' := HK.out.below B1 (by omega)
        have E' : Ext w W' := Below.trans HE.out (Below.mono B1 (by omega))
        have HB' := Lib.hid E'
        have HK' := Lib.hid K'
        clear E' K' B1 b' hcell
        go_wp2_with fail
        go_roundw
        case rel => exact ⟨k + 1, by omega, by go_num, o', HK'.out, HB'.out⟩
        case measure => simp [intOf] <;> omega
    · have hrest : s.l.take k = s.l := List.take_of_length_le (by show 8 ≤ k; omega)
      rw [hrest] at ho
      have hlt' : ¬ (k : Int) < 8 := by omega
      clear hrest
      go_wp2_with fail
      go_ret
      exact ⟨_, rfl, ho.mono (by omega), hE⟩

/-- What stands over a segment, as bytes: may it be asked? -/
def okO (k n : Int) : Bool := w8 k && (decide (0 ≤ n) && decide (n ≤ 320))
theorem okO_yes {k n : Int} (h : okO k n = true) : (0 ≤ k ∧ k ≤ 255) ∧ (0 ≤ n ∧ n ≤ 320) := by
  unfold okO at h
  simp only [Bool.and_eq_true, decide_eq_true_eq] at h
  exact ⟨w8_yes h.1, h.2⟩
def bO (b : Bool) (v : Int) : Int := if b then v else 0
def eO (b : Bool) : Int := if b then 0 else 1

set_option maxRecDepth 100000 in
set_option maxHeartbeats 2000000 in
theorem overOf_any (a1 : Option Addr) (n1 c1 : Nat) (x1 : List Int) (a2 : Option Addr) (n2 c2 : Nat) (x2 : List Int) (k n : Int) (w : World) (h1 : Ints .u8 w a1 n1 x1) (h2 : Ints .u8 w a2 n2 x2) (b1 : Pl.IsB x1) (b2 : Pl.IsB x2) (hn : n1 + n2 ≤ 100) :
    Calls Tryd.prog 104 #[.slice a1 n1 c1, .slice a2 n2 c2, .int .i64 k, .int .i64 n] w fun e w' =>
      e = .returned (.tuple #[.int .i64 (bO (okO k n) (Pl.fold (Pl.raw 0 (x1 ++ x2 ++ Pl.two [k, n])))), .int .i64 (eO (okO k n))]) ∧ Ext w w' := by
  have H1 := Lib.hid h1
  have H2 := Lib.hid h2
  have HB1 := Lib.hid b1
  have HB2 := Lib.hid b2
  clear h1 h2 b1 b2
  cases hk : w8 k
  case false =>
    have ho : okO k n = false := by unfold okO; rw [hk]; rfl
    rw [ho]
    have HK := Lib.hid hk
    clear hk ho
    go_enter Tryd.func104, Tryd.ntmps104
    go_wp2_with fail
    refine (isByte_any k w).mono ?_
    rintro e w' ⟨rfl, rfl⟩
    rw [HK.out]
    go_wp2_with fail
    go_ret2
    exact ⟨rfl, Ext.refl _⟩
  case true =>
    obtain ⟨k0, k1⟩ := w8_yes hk
    have HK := Lib.hid hk
    by_cases g0 : 0 ≤ n
    case neg =>
      have ho : okO k n = false := by unfold okO; simp [g0]
      rw [ho]
      clear hk ho
      go_enter Tryd.func104, Tryd.ntmps104
      go_wp2_with fail
      refine (isByte_any k w).mono ?_
      rintro e w' ⟨rfl, rfl⟩
      rw [HK.out]
      go_wp2_with fail
      go_ret2
      exact ⟨rfl, Ext.refl _⟩
    by_cases g1 : n ≤ 320
    case neg =>
      have ho : okO k n = false := by unfold okO; simp [g1]
      rw [ho]
      clear hk ho
      go_enter Tryd.func104, Tryd.ntmps104
      go_wp2_with fail
      refine (isByte_any k w).mono ?_
      rintro e w' ⟨rfl, rfl⟩
      rw [HK.out]
      go_wp2_with fail
      go_ret2
      exact ⟨rfl, Ext.refl _⟩
    have ho : okO k n = true := by unfold okO; rw [hk]; simp [g0, g1]
    rw [ho]
    clear hk ho
    go_enter Tryd.func104, Tryd.ntmps104
    go_wp2_with fail
    refine (isByte_any k w).mono ?_
    rintro e w' ⟨rfl, rfl⟩
    rw [HK.out]
    go_wp2_with (at_builtin; refine Halt.out ?_)
    refine Halt.mk ?_
    refine app rfl _ _ rfl w.heap.size _ [] rfl (Own.nil _ _) a1 n1 c1 x1 rfl H1.out (by simp; omega) (Nat.le_refl _) ?_
    intro v1 W1 o1 q1
    rw [List.nil_append] at o1
    have E1 : Ext w W1 := q1
    go_wp2_with (at_builtin; refine Halt.out ?_)
    refine Halt.mk ?_
    refine app rfl _ _ rfl w.heap.size v1 x1 rfl o1 a2 n2 c2 x2 rfl (H2.out.ext E1) (by rw [H1.out.len]; omega) E1.size ?_
    intro v2 W2 o2 q2
    have E2 : Ext w W2 := Below.trans E1 q2
    clear o1 q1 q2 E1
    go_wp2_with fail
    have hlt2 := o2.lt
    refine (rwords_any w.heap.size v2 (x1 ++ x2) (some ⟨W2.heap.size, 0, none⟩) 2 2 [k, n] _ (o2.ext ((Ext.refl W2).alloc _)) (ints_new W2 _ _ _ _ _ rfl) (fun x hx => by simp only [List.mem_cons, List.not_mem_nil, or_false] at hx; rcases hx with rfl | rfl <;> omega) (by have := E2.size; simp; omega)
      (fun j hj p hp => by cases hp; have := (hlt2 j hj).2; show W2.heap.size ≠ j; omega) (by rw [List.length_append, H1.out.len, H2.out.len]; omega)).mono ?_
    rintro e W3 ⟨v3, rfl, o3, q3⟩
    have E3 : Ext w W3 := Below.trans E2 (Below.trans (Below.alloc (Below.refl _ _) E2.size _) q3)
    obtain ⟨a3, n3, c3, rfl, _, r3⟩ := o3.read
    have hn3 : n3 ≤ 65536 := by rw [← r3.len, List.length_append, List.length_append, Pl.two_length, H1.out.len, H2.out.len]; simp; omega
    clear hlt2 o2 q3
    go_wp2_with fail
    refine (sumOf_any a3 n3 c3 _ W3 r3 ((HB1.out.append HB2.out).append (Pl.two_isB (fun x hx => by simp only [List.mem_cons, List.not_mem_nil, or_false] at hx; rcases hx with rfl | rfl <;> omega))) hn3).mono ?_
    rintro e w' ⟨rfl, rfl⟩
    go_wp2_with fail
    go_ret2
    refine ⟨?_, E3⟩
    rw [List.append_assoc]
    rfl
end Go.Proofs.YtkjchddidpjjmaaDoor
