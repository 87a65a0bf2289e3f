/- The law ShiftTold: no Ack that goes down is ahead of the stream's start; bytes and number of the segment stay. Conditions: none. -/
import Derived.Test.YtoaahiclmodcgaaOpenS
import Derived.Test.YtoaahiclmodcgaaDown
import Derived.Deep.DeepCutAuto
import Derived.Lib.SlBytesConst
namespace Go.Proofs.Ytoaahiclmodcgaa.shiftTold
open Go.ChangeShapes Go.WideShapes Go.ChangeAt Go.RowKit

set_option maxRecDepth 100000 in
set_option maxHeartbeats 4000000 in
theorem walk (a0 : Option Addr) (n0 c0 : Nat) (x0 : List Int) (x1 : Int) (a2 : Option Addr) (n2 c2 : Nat) (ss : List Sd) (w : World) (w0 : IsBytes w a0 n0 c0 x0 ∧ (a0 = none → c0 = 0)) (_ : IsInt x1) (w2 : IsSegs w a2 n2 c2 ss) :
    Calls Try.prog 6 #[.slice a0 n0 c0, .int .i64 x1, .slice a2 n2 c2] w fun e w' => e = .returned (.bool true) ∧ Below w.heap.size w w' := by
  obtain ⟨⟨hb, _, _, _⟩, h0c⟩ := w0
  have HB := Lib.hid hb
  have HS := Lib.hid w2
  have HC := Lib.hid h0c
  clear hb w2 h0c
  have kc := fun (w : World) (C : Array Value) (n c : Nat) => Lib.run_convert_bytes_const (P := Try.prog) w 41 5 C n c Try.underlying41 Try.underlying5
  go_enter Try.func6, Try.ntmps6
  go_wp2_with fail
  have i1 : Ints .u8 (w.alloc (.cells #[.int .u8 104, .int .u8 105] 5 (2, 3))) (some ⟨w.heap.size, 0, none⟩) 2 [104, 105] := ⟨rfl, .inr ⟨w.heap.size, 0, rfl, fun i hi => (World.cell?_alloc_mark w _ _ _ _).trans (by
    have h : i = 0 ∨ i = 1 := by omega
    rcases h with rfl | rfl <;> rfl)⟩⟩
  refine (new_ok _ 2 2 [104, 105] _ (by omega) i1 (fun h => by cases h)).mono ?_
  rintro e W1 ⟨g, h, rfl, hg, K1, O1, _, q1⟩
  obtain ⟨ha, hn, hc, rfl, _, _⟩ := O1.read
  obtain rfl : 2 = hn := O1.len
  have E1 : Ext w W1 := ((Ext.refl w).alloc _).trans q1
  go_wp2_with fail
  refine (up_syn g ha 2 hc 0 false ⟨6, 0, 0, 9, 0, 2, 0⟩ none 0 W1 (by decide) K1 Ints.nil (fun _ => rfl) (by omega) (by decide)).mono ?_
  rintro e W2 ⟨⟨v, rfl, _⟩, K2, q2⟩
  simp only [World.size_alloc] at hg
  have E2 : Ext w W2 := Below.only E1 q2 E1.size (by omega)
  go_wp2_with fail
  refine (down_ok g (.slice ha 2 hc) (ser (9 + 1)) false ⟨6, 0, 0, 0, 9, 16, 0⟩ none 0 0 [] W2 (by decide) K2 (by decide) Ints.nil (fun _ => rfl)).mono ?_
  rintro e W3 ⟨_, hd, _⟩
  obtain ⟨⟨v, rfl, o3⟩, q3⟩ := hd (by decide) (by decide)
  obtain ⟨va, vn, vc, rfl, _, _⟩ := o3.read
  have K3 := Blk.ext K2 q3
  have E3 := E2.trans q3
  have e10 : ser (9 + 1) = 10 := by decide
  rw [e10] at K3
  have K3' := Blk.alloc K3 (.cells ((⟨6, 0, 0, 0, 10, 16, 0⟩ : Sg).cells (.slice va vn vc)) 47)
  have E3' := E3.alloc (.cells ((⟨6, 0, 0, 0, 10, 16, 0⟩ : Sg).cells (.slice va vn vc)) 47)
  unfold Sg.cells at K3' E3' ⊢
  rw [e10]
  dsimp only at K3' E3' ⊢
  have hl3 : g < W3.heap.size := Blk.lt K3
  clear K1 K2 K3 q1 q2 q3 E1 E2 E3 O1 o3 hd i1
  go_wp2_with fail
  refine (heard_any g _ _ _ _ _ K3').mono ?_
  rintro e W4 ⟨rfl, rfl⟩
  clear K3' kc
  go_wp2_with fail
  refine at_world (fun W => Ext w W) E3' ?_
  rintro W5 E5
  by_cases hn : n0 ≤ 100
  case neg =>
    refine (new_full a0 n0 c0 W5 (by omega)).mono ?_
    rintro e W6 ⟨rfl, q6⟩
    have E6 := E5.trans q6
    unfold errv
    go_wp2_with fail
    go_ret
    exact ⟨rfl, E6⟩
  case pos =>
    refine (new_ok a0 n0 c0 x0 W5 hn (HB.out.ext E5) HC.out).mono ?_
    rintro e W6 ⟨g, h, rfl, hg, K6, O6, _, q6⟩
    obtain ⟨ha, hm, hc, rfl, _, _⟩ := O6.read
    obtain rfl : n0 = hm := HB.out.len.symm.trans O6.len
    have hgw := E5.size
    have E6 := E5.trans q6
    clear O6 E5 q6
    by_cases h0 : x1 < 0
    · go_wp2_with fail
      go_ret
      exact ⟨rfl, E6⟩
    by_cases h1 : 4294967296 ≤ x1
    · go_wp2_with fail
      go_ret
      exact ⟨rfl, E6⟩
    have hf : Pl.shFault ⟨6, 0, 0, x1, 0, 2, 0⟩ 0 = 0 := by
      have : Pl.segFault ⟨6, 0, 0, x1, 0, 2, 0⟩ 0 = 0 := by unfold Pl.segFault Pl.Word; simp; omega
      unfold Pl.shFault
      rw [this]
      rfl
    have hr : 0 ≤ (x1 + 1) % 4294967296 ∧ (x1 + 1) % 4294967296 < 4294967296 := by omega
    have HR := Lib.hid hr
    clear hr
    go_wp2_with fail
    refine (up_syn g ha n0 hc 0 false ⟨6, 0, 0, x1, 0, 2, 0⟩ none 0 W6 hf K6 Ints.nil (fun _ => rfl) hn rfl).mono ?_
    rintro e W7 ⟨⟨v, rfl, o7⟩, K7, q7⟩
    obtain ⟨va, vn, vc, rfl, _, _⟩ := o7.read
    have hgB : w.heap.size ≤ g := by omega
    have E7 : Ext w W7 := Below.only E6 q7 E6.size hgB
    have eser : ser (x1 + 1) = (x1 + 1) % 4294967296 := rfl
    dsimp only at K7
    rw [eser] at K7
    have K7' := Blk.alloc K7 (.cells ((⟨6, 0, 0, ser (x1 - n0), 0, 2, 0⟩ : Sg).cells (.slice va vn vc)) 47)
    have E7' := E7.alloc (.cells ((⟨6, 0, 0, ser (x1 - n0), 0, 2, 0⟩ : Sg).cells (.slice va vn vc)) 47)
    unfold Sg.cells at K7' E7' ⊢
    dsimp only at K7' E7' ⊢
    have ew1 : IntKind.i64.wrap (x1 + 1) = x1 + 1 := IntWalk.i64_in _ (by omega)
    have ewr : IntKind.i64.wrap ((x1 + 1).tmod 4294967296) = (x1 + 1) % 4294967296 := by rw [Int.tmod_eq_emod_of_nonneg (by omega)]; exact IntWalk.i64_in _ (by omega)
    clear K6 K7 q7 E6 E7 o7
    go_wp2_with fail
    generalize (x1 + 1) % 4294967296 = start at *
    go_loopw [15] (fun i wr => ∃ k : Nat, k ≤ n2 ∧ i = .int .i64 k ∧ Ext w wr ∧ ∃ hd, StB wr g (.slice ha n0 hc) start true hd) (fun i _ => n2 - (intOf i).toNat)
    case atStart => exact ⟨0, Nat.zero_le _, rfl, E7', false, K7'⟩
    case round =>
      obtain ⟨k, hk, rfl, Er, hd, Kr⟩ := hrel
      clear E7' K7'
      by_cases hk2 : k < n2
      case neg =>
        have hkn : ¬ (k : Int) < (n2 : Int) := by omega
        go_wp2_with fail
        go_ret
        exact ⟨rfl, Er⟩
      by_cases hk4 : k < 40
      case neg =>
        have hkn : ¬ (k : Int) < 40 := by omega
        go_wp2_with fail
        go_ret
        exact ⟨rfl, Er⟩
      have hx0 : Ints .u8 w (ss.getD k default).a (ss.getD k default).n (ss.getD k default).xs := by
        obtain ⟨_, _, _, _, hat0⟩ := HS.out.at (Ext.refl w) (by omega)
        exact (hat0 k hk2).1.1.1
      obtain ⟨b, off, rfl, hbl, hat⟩ := HS.out.at Er (by omega)
      obtain ⟨⟨⟨hxi, hxB, _⟩, hxc, _⟩, hcell⟩ := hat k hk2
      generalize ss.getD k default = y at *
      obtain ⟨s, ya, yn, yc, ys⟩ := y
      have HX := Lib.hid hxi
      have HX0 := Lib.hid hx0
      have HXB := Lib.hid hxB
      have HXC := Lib.hid hxc
      have HCELL := Lib.hid hcell
      have hld := load_seg (b := b) (off := off + k * 8) s (.slice ya yn yc) (fun j hj => by rw [Nat.add_assoc]; exact hcell j hj)
      clear hat hx0 hxi hxB hxc hcell
      have hkn : (k : Int) < (n2 : Int) := by omega
      have hk40 : (k : Int) < 40 := by omega
      go_wp2_with ((apply load_by rfl _ _ rfl _ rfl); (focus (with_reducible assumption)))
      refine (down_any g _ start hd s ya yn yc ys wr Kr HR.out HX.out HXC.out).mono ?_
      rintro e W8 ⟨⟨hd', K8⟩, q8, hc8⟩
      have E8 : Ext w W8 := Below.only Er q8 Er.size hgB
      have hkr : ((k + 1 : Nat) : Int) = (k : Int) + 1 := by omega
      rcases hc8 with ⟨q, rfl⟩ | ⟨s', ⟨v', rfl, o8⟩, hseq, ⟨a0', a1'⟩, ⟨f0, f1⟩, htold⟩
      case inl =>
        have K9 := Blk.alloc K8 (.cells (sg0.cells (.slice none 0 0)) 47)
        have E9 := E8.alloc (.cells (sg0.cells (.slice none 0 0)) 47)
        unfold sg0 Sg.cells at K9 E9 ⊢
        unfold errv
        dsimp only at K9 E9 ⊢
        clear hld
        go_wp2_with fail
        go_roundw
        case rel => exact ⟨k + 1, by omega, by go_num, E9, hd', K9⟩
        case measure => simp [intOf] <;> omega
      case inr =>
        obtain ⟨ra, rn, rc, rfl, _, hri⟩ := o8.read
        obtain ⟨sk, sf, st, sq, sa, sl, sw⟩ := s'
        dsimp only at hseq a0' a1' f0 f1 htold
        subst hseq
        have hbg : b ≠ g := by omega
        have hlw := Er.size
        have hcell8 : ∀ j, j < 8 → W8.cell? ⟨b, off + k * 8 + j, none⟩ = (s.cells (.slice ya yn yc))[j]? := fun j hj => by
          rw [Nat.add_assoc]
          exact (World.cell?_of_block (q8.block b (by omega) (fun e => hbg (Option.some.inj e)))).trans (HCELL.out j hj)
        have c3 : W8.cell? ⟨b, off + k * 8 + 3, none⟩ = some (.int .i64 s.seq) := hcell8 3 (by omega)
        have c7 : W8.cell? ⟨b, off + k * 8 + 7, none⟩ = some (.slice ya yn yc) := hcell8 7 (by omega)
        have hz8 := q8.size
        have hb8 : b < W8.heap.size := by omega
        have hX8 : Ints .u8 W8 ya yn ys := HX0.out.ext E8
        have K9 := Blk.alloc K8 (.cells ((⟨sk, sf, st, s.seq, sa, sl, sw⟩ : Sg).cells (.slice ra rn rc)) 47)
        have E9 := E8.alloc (.cells ((⟨sk, sf, st, s.seq, sa, sl, sw⟩ : Sg).cells (.slice ra rn rc)) 47)
        have k1 := fun m => conv_str (c := rc) (hri.ext (((Ext.refl W8).alloc (.cells ((⟨sk, sf, st, s.seq, sa, sl, sw⟩ : Sg).cells (.slice ra rn rc)) 47)).drewN m))
        have k2 := fun m => conv_str (c := yc) (hX8.ext (((Ext.refl W8).alloc (.cells ((⟨sk, sf, st, s.seq, sa, sl, sw⟩ : Sg).cells (.slice ra rn rc)) 47)).drewN m))
        have eq1 : IntKind.i64.wrap (sl.tdiv 16) = sl / 16 := by rw [Int.tdiv_eq_ediv_of_nonneg f0]; exact IntWalk.i64_in _ (by omega)
        have eq2 : IntKind.i64.wrap ((sl / 16).tmod 2) = sl / 16 % 2 := by rw [Int.tmod_eq_emod_of_nonneg (by omega)]; exact IntWalk.i64_in _ (by omega)
        have HR1 := HR.out
        have ew3 : IntKind.i64.wrap (start - sa) = start - sa := IntWalk.i64_in _ (by omega)
        have ew4 : IntKind.i64.wrap (start - sa + 4294967296) = start - sa + 4294967296 := IntWalk.i64_in _ (by omega)
        have ew5 : IntKind.i64.wrap ((start - sa + 4294967296).tmod 4294967296) = (start - sa) % 4294967296 := by rw [Int.tmod_eq_emod_of_nonneg (by omega)]; rw [IntWalk.i64_in _ (by omega)]; omega
        have HXI := Lib.hid hX8
        have HRI := Lib.hid hri
        unfold Sg.cells at K9 E9 k1 k2 ⊢
        dsimp only at K9 E9 k1 k2 ⊢
        generalize strOfNums ys = zs at k1 k2
        clear hld hcell8 hX8 hri
        by_cases hA : sl / 16 % 2 = 0
        case pos =>
          have hA' : (sl / 16 % 2 == 0) = true := by simpa using hA
          clear htold hA
          go_wp2_with fail
          go_roundw
          case rel => exact ⟨k + 1, by omega, by go_num, E9, hd', K9⟩
          case measure => simp [intOf] <;> omega
        have hT := htold (by omega)
        have hA' : (sl / 16 % 2 == 0) = false := by simpa using hA
        unfold Told at hT
        clear htold hA
        by_cases hd1 : 1 ≤ (start - sa) % 4294967296
        case neg =>
          have hdd : decide (1 ≤ (start - sa) % 4294967296) = false := by simpa using hd1
          clear hT hd1
          go_wp2_with fail
          go_quiet (fail)
          go_wp2_with fail
          go_roundw
          case rel => exact ⟨k + 1, by omega, by go_num, E9.drewN _, hd', Blk.drewN K9 _⟩
          case measure => simp [intOf] <;> omega
        case pos =>
          have hd2 : decide ((start - sa) % 4294967296 < 2147483648) = false := by
            have : ¬ (start - sa) % 4294967296 < 2147483648 := fun h => hT ⟨hd1, h⟩
            simpa using this
          clear hT
          go_wp2_with fail
          go_quiet (fail)
          go_wp2_with fail
          go_roundw
          case rel => exact ⟨k + 1, by omega, by go_num, E9.drewN _, hd', Blk.drewN K9 _⟩
          case measure => simp [intOf] <;> omega

set_option maxRecDepth 100000 in
theorem lifted (os : Os) (started : os.Started) (H : Type) (enc : TypeId × Value → H) :
    ReturnsInHanded {} Try.checked os 6 .any (Rows.shiftToldSpec.pre6 enc Try.prog Try.f6 Rows.shiftToldRow.domain false) (Rows.shiftToldSpec.post enc Try.prog Try.f6 false true false false) := by
  refine returnsInHanded_of_change (C := Try.checked) own started (by kernel_rfl) Try.func6
    (ChangeSpec.witness6 (enc := enc) (C := Try.checked) false ⟨#[], #[.slice none 0 0, .int .i64 0, .slice none 0 0], []⟩ 8 (by kernel_rfl) (by kernel_rfl) (by kernel_rfl) (by kernel_rfl)) ?_
  intro W base args ds gs before hval0 hW hcnd _
  have hval : ∀ (j : Nat) t v, Try.f6.params[j]? = some t → args[j]? = some v → Value.okWide Try.prog W .any base t v := hval0
  have hW' := hW
  obtain ⟨p, q, hA0, hV, rfl, hfz, hnd⟩ := hW
  have hA : DataW.TrodAll enc Try.prog W 0 (fun _ => true) true Try.f6.params.toList args.toList ds p := hA0
  rw [Try.params6] at hA hval
  obtain ⟨v0, vs0, d0, ds0, p0, q0, hargs, rfl, rfl, h0, r0⟩ := trodAll_cons hA
  obtain ⟨v1, vs1, d1, ds1, p1, q1, rfl, rfl, rfl, h1, r1⟩ := trodAll_cons r0
  obtain ⟨v2, vs2, d2, ds2, p2, q2, rfl, rfl, rfl, h2, r2⟩ := trodAll_cons r1
  obtain ⟨rfl, rfl, rfl⟩ := trodAll_nil r2
  obtain rfl : args = #[v0, v1, v2] := by cases args; simp_all
  obtain ⟨rfl, rfl⟩ := trodVars_none hV
  have lt0 : ∀ x ∈ p0, x.block < W.heap.size := by obtain ⟨m, hm⟩ := h0; exact DataW.trod_lt m _ _ _ hm
  have k0 := h0
  obtain ⟨a0, n0, c0, rfl⟩ := okWide_slice Try.underlying41 (hval 0 41 v0 rfl rfl)
  obtain ⟨x0, w0⟩ := open_bytesz h0
  have lt1 : ∀ x ∈ p1, x.block < W.heap.size := by obtain ⟨m, hm⟩ := h1; exact DataW.trod_lt m _ _ _ hm
  have k1 := h1
  obtain ⟨x1, rfl, _, _, w1'⟩ := open_int Try.underlying3 (hval 1 3 v1 rfl rfl) h1
  have w1 : IsInt x1 := wf_i64 w1'
  have lt2 : ∀ x ∈ p2, x.block < W.heap.size := by obtain ⟨m, hm⟩ := h2; exact DataW.trod_lt m _ _ _ hm
  have k2 := h2
  obtain ⟨a2, n2, c2, rfl⟩ := okWide_slice Try.underlying51 (hval 2 51 v2 rfl rfl)
  obtain ⟨b2, w2⟩ := open_segs h2
  clear hA0 hval0
  refine (walk a0 n0 c0 x0 x1 a2 n2 c2 b2 W w0 w1 w2).mono fun e W' ⟨he, bel⟩ => ?_
  subst he
  exact ⟨_, rfl, _, _, _, [], _, [], hW', trodAll_mk1 (shut_bool Try.underlying4 _), (trodAll_cons_mk (Below.trod laidOut (by kernel_rfl) (of_decide_eq_true (by kernel_rfl)) k0 bel lt0) (trodAll_cons_mk (Below.trod laidOut (by kernel_rfl) (of_decide_eq_true (by kernel_rfl)) k1 bel lt1) (trodAll_cons_mk (Below.trod laidOut (by kernel_rfl) (of_decide_eq_true (by kernel_rfl)) k2 bel lt2) trodAll_mk0))), rfl, bel.frame _, fun h => by cases h⟩

theorem over : Rows.shiftToldRow.holds Try.pinned (OpenSpec.ofChange Rows.shiftToldSpec) :=
  OpenClaim.holds_of_wide 6 Try.f6 rfl rfl rfl rfl rfl rfl rfl ⟨rfl, rfl, rfl, rfl, rfl⟩ rfl rfl rfl rfl rfl (by kernel_rfl) Try.func6 (by kernel_rfl)
    (of_decide_eq_true (by kernel_rfl)) (by unfold Func.isWrapper; first | (rw [if_pos (by decide +kernel)]; kernel_rfl) | (rw [if_neg (by decide +kernel)]; exact ⟨rfl, rfl⟩))
    (fun os started H enc _ => lifted os started H enc)

/-- THE STATEMENT. -/
theorem proved : Rows.ShiftToldSaid := over
#print axioms proved
end Go.Proofs.Ytoaahiclmodcgaa.shiftTold
