/- The law ShiftSeen: the server sees the head, then the stream. Conditions: none. -/
import Derived.Test.YtoaahiclmodcgaaOpenS
import Derived.Test.YtoaahiclmodcgaaSeen
import Derived.Deep.DeepCutAuto
import Derived.Lib.SlBytesConst
namespace Go.Proofs.Ytoaahiclmodcgaa.shiftSeen
open Go.ChangeShapes Go.WideShapes Go.ChangeAt Go.RowKit

theorem ints_mark2 (w : World) (t : TypeId) (x y : Int) (fr : Nat × Nat) : Ints .u8 (w.alloc (.cells #[.int .u8 x, .int .u8 y] t fr)) (some ⟨w.heap.size, 0, none⟩) 2 [x, y] := ⟨rfl, .inr ⟨w.heap.size, 0, rfl, fun i hi => (World.cell?_alloc_mark w _ _ _ _).trans (by
    have h : i = 0 ∨ i = 1 := by omega
    rcases h with rfl | rfl <;> rfl)⟩⟩
theorem ints_mark1 (w : World) (t : TypeId) (x : Int) (fr : Nat × Nat) : Ints .u8 (w.alloc (.cells #[.int .u8 x] t fr)) (some ⟨w.heap.size, 0, none⟩) 1 [x] := ⟨rfl, .inr ⟨w.heap.size, 0, rfl, fun i hi => (World.cell?_alloc_mark w _ _ _ _).trans (by
    have h : i = 0 := by omega
    subst h; rfl)⟩⟩

set_option maxRecDepth 100000 in
set_option maxHeartbeats 4000000 in
theorem walk (a0 : Option Addr) (n0 c0 : Nat) (x0 : List Int) (x1 : Int) (a2 : Option Addr) (n2 c2 : Nat) (x2 : List Int) (a3 : Option Addr) (n3 c3 : Nat) (x3 : List Int) (a4 : Option Addr) (n4 c4 : Nat) (x4 : List Int) (a5 : Option Addr) (n5 c5 : Nat) (x5 : List Int) (w : World)
    (w0 : IsBytes w a0 n0 c0 x0 ∧ (a0 = none → c0 = 0)) (_ : IsInt x1) (w2 : IsBytes w a2 n2 c2 x2 ∧ (a2 = none → c2 = 0)) (w3 : IsIntsl w a3 n3 c3 x3) (w4 : IsIntsl w a4 n4 c4 x4) (w5 : IsIntsl w a5 n5 c5 x5) :
    Calls Try.prog 5 #[.slice a0 n0 c0, .int .i64 x1, .slice a2 n2 c2, .slice a3 n3 c3, .slice a4 n4 c4, .slice a5 n5 c5] w fun e w' => e = .returned (.bool true) ∧ Below w.heap.size w w' := by
  obtain ⟨⟨hb, _, hnc0, _⟩, h0c⟩ := w0
  obtain ⟨⟨hb2, _, hnc2, _⟩, h2c⟩ := w2
  have HB := Lib.hid hb
  have HC := Lib.hid h0c
  have HD := Lib.hid hb2
  have HDC := Lib.hid h2c
  have H3 := Lib.hid w3
  have H4 := Lib.hid w4
  have H5 := Lib.hid w5
  clear hb h0c hb2 h2c w3 w4 w5
  have kc := fun (w : World) (C : Array Value) (n c : Nat) => Lib.run_convert_bytes_const (P := Try.prog) w 41 5 C n c Try.underlying41 Try.underlying5
  go_enter Try.func5, Try.ntmps5
  go_wp2_with fail
  refine (new_ok _ 2 2 [104, 105] _ (by omega) (ints_mark2 _ _ _ _ _) (fun h => by cases h)).mono ?_
  rintro e W1 ⟨g, h, rfl, hg, K1, O1, hbg, q1⟩
  obtain ⟨ha, hn, hc, rfl, _, hi1⟩ := O1.read
  obtain rfl : 2 = hn := O1.len
  have E1 : Ext w W1 := ((Ext.refl w).alloc _).trans q1
  clear O1
  go_wp2_with fail
  refine (up_syn g ha 2 hc 0 false ⟨6, 0, 0, 9, 0, 2, 0⟩ none 0 W1 (by decide) K1 Ints.nil (fun _ => rfl) (by omega) (by decide)).mono ?_
  rintro e W2 ⟨⟨v, rfl, _⟩, K2, q2⟩
  simp only [World.size_alloc] at hg
  have E2 : Ext w W2 := Below.only E1 q2 E1.size (by omega)
  have hi2 := hi1.only q2 (fun p hp => by subst hp; have := hbg p.block rfl; omega)
  have e10 : ser (9 + 1) = 10 := by decide
  rw [e10] at K2
  clear E1 hi1 q1 q2 K1 hbg
  go_wp2_with fail
  refine at_world (fun W => Ext w W ∧ StB W g (.slice ha 2 hc) 10 true false ∧ Ints .u8 W ha 2 [104, 105] ∧ Ints .u8 W (some ⟨W2.heap.size, 0, none⟩) 1 [120]) ⟨E2.alloc _, Blk.alloc K2 _, hi2.ext ((Ext.refl W2).alloc _), ints_mark1 _ _ _ _⟩ ?_
  rintro W3 ⟨E3, K3, i3, j3⟩
  refine (up_data g ha 2 hc [104, 105] 10 false ⟨6, 0, 0, 10, 0, 0, 0⟩ (some ⟨W2.heap.size, 0, none⟩) 1 1 [120] W3 (by decide) K3 (by decide) i3 j3 (fun h => by cases h) (by omega) (by decide)).mono ?_
  rintro e W4 ⟨-, hp, -⟩
  obtain ⟨⟨v4, rfl, o4⟩, q4⟩ := hp rfl rfl (by omega)
  obtain ⟨va, vn, vc, rfl, _, i4⟩ := o4.read
  obtain rfl : 3 = vn := o4.len
  have E4 := E3.trans q4
  have e8 : ser (10 - (2 : Nat)) = 8 := by decide
  have E4' := E4.alloc (.cells ((⟨6, 0, 0, 8, 0, 0, 0⟩ : Sg).cells (.slice va 3 vc)) 47)
  have k4 := conv_str (c := vc) (i4.ext ((Ext.refl W4).alloc (.cells ((⟨6, 0, 0, 8, 0, 0, 0⟩ : Sg).cells (.slice va 3 vc)) 47)))
  unfold Sg.cells at E4' k4 ⊢
  dsimp only at E4' k4 ⊢
  rw [e8]
  have ez : (strOfNums ([104, 105] ++ [120])) = ⟨#[104, 105, 120]⟩ := by decide
  rw [ez] at k4
  clear K2 K3 i3 j3 i4 o4 q4 hp hi2 E2 E3 E4 hg kc
  go_wp2_with fail
  refine at_world (fun W => Ext w W) E4' ?_
  rintro W5 E5
  clear k4 E4' e8 e10 ez
  by_cases hn : n0 ≤ 100
  case neg =>
    refine (new_full a0 n0 c0 W5 (by omega)).mono ?_
    rintro e W6 ⟨rfl, q6⟩
    have E6 := E5.trans q6
    unfold errv
    go_wp2_with fail
    go_ret
    exact ⟨rfl, E6⟩
  refine (new_ok a0 n0 c0 x0 W5 hn (HB.out.ext E5) HC.out).mono ?_
  rintro e W6 ⟨g, h, rfl, hg, K6, O6, _, q6⟩
  obtain ⟨ha, hm, hc, rfl, _, r6⟩ := O6.read
  obtain rfl : n0 = hm := HB.out.len.symm.trans O6.len
  have hgw := E5.size
  have E6 := E5.trans q6
  have hgB : w.heap.size ≤ g := by omega
  have hog : ∀ p, ha = some p → p.block ≠ g := fun p hp => by subst hp; have := (by assumption : ∀ k, (Value.slice (some p) n0 hc).ownBlock = some k → k < g) p.block rfl; omega
  clear O6 E5 q6
  by_cases h0 : x1 < 0
  · go_wp2_with fail
    go_ret
    exact ⟨rfl, E6⟩
  by_cases h1 : 4294967296 ≤ x1
  · go_wp2_with fail
    go_ret
    exact ⟨rfl, E6⟩
  by_cases h2 : 150 < n2
  · have h2' : (150 : Int) < (n2 : Int) := by omega
    go_wp2_with fail
    go_ret
    exact ⟨rfl, E6⟩
  have h2' : ¬ (150 : Int) < (n2 : Int) := by omega
  have hf : Pl.shFault ⟨6, 0, 0, x1, 0, 2, 0⟩ 0 = 0 := shFault_tcp x1 0 2 0 (by omega) (by omega) (by omega) (by omega) (by omega) (by omega) (by omega)
  go_wp2_with fail
  refine (up_syn g ha n0 hc 0 false ⟨6, 0, 0, x1, 0, 2, 0⟩ none 0 W6 hf K6 Ints.nil (fun _ => rfl) hn rfl).mono ?_
  rintro e W7 ⟨⟨v, rfl, o7⟩, K7, q7⟩
  obtain ⟨va, vn, vc, rfl, _, _⟩ := o7.read
  have E7 : Ext w W7 := Below.only E6 q7 E6.size hgB
  have r7 := r6.only q7 hog
  have eser : ser (x1 + 1) = (x1 + 1) % 4294967296 := rfl
  dsimp only at K7
  rw [eser] at K7
  have K8 := Blk.alloc K7 (.cells ((⟨6, 0, 0, ser (x1 - n0), 0, 2, 0⟩ : Sg).cells (.slice va vn vc)) 47)
  have E8 := E7.alloc (.cells ((⟨6, 0, 0, ser (x1 - n0), 0, 2, 0⟩ : Sg).cells (.slice va vn vc)) 47)
  have r8 := r7.ext ((Ext.refl W7).alloc (.cells ((⟨6, 0, 0, ser (x1 - n0), 0, 2, 0⟩ : Sg).cells (.slice va vn vc)) 47))
  unfold Sg.cells at K8 E8 r8 ⊢
  dsimp only at K8 E8 r8 ⊢
  have hser : 0 ≤ ser (x1 - n0) ∧ ser (x1 - n0) < 4294967296 := by unfold ser; omega
  have ew1 : IntKind.i64.wrap (ser (x1 - n0) + 1) = ser (x1 - n0) + 1 := IntWalk.i64_in _ (by omega)
  have ewr : IntKind.i64.wrap ((ser (x1 - n0) + 1).tmod 4294967296) = (ser (x1 - n0) + 1) % 4294967296 := by rw [Int.tmod_eq_emod_of_nonneg (by omega)]; exact IntWalk.i64_in _ (by omega)
  clear K6 K7 q7 E6 E7 o7 r6 r7 eser
  go_upto_region 16 with (fail)
  refine at_worldC (fun W => Ext w W ∧ StB W g (.slice ha n0 hc) ((x1 + 1) % 4294967296) true false ∧ Ints .u8 W ha n0 x0) ⟨E8, K8, r8⟩ ?_
  rintro W9 ⟨E9, K9, r9⟩
  clear E8 K8 r8 ew1 ewr hser
  go_wp2_with (at_builtin; refine Halt.out ?_)
  refine Halt.mk ?_
  refine app rfl _ _ rfl W9.heap.size _ [] rfl (Own.nil _ _) a0 n0 c0 x0 rfl (HB.out.ext E9) (by simp; omega) (Nat.le_refl _) ?_
  intro v1 W10 o10 b10
  rw [List.nil_append] at o10
  have E10 : Ext W9 W10 := b10
  go_wp2_with (at_builtin; refine Halt.out ?_)
  refine Halt.mk ?_
  refine app rfl _ _ rfl W9.heap.size v1 x0 rfl o10 a2 n2 c2 x2 rfl (HD.out.ext (E9.trans E10)) (by rw [HB.out.len]; omega) E10.size ?_
  intro v2 W11 o11 b11
  have E11 : Ext W9 W11 := Below.trans E10 b11
  have K11 := Blk.ext K9 E11
  have r11 := r9.ext E11
  obtain ⟨aa, nn, ac, rfl, hac, i11, hacn⟩ := o11.readn
  have hN : n0 + n2 = nn := by rw [← o11.len, List.length_append, HB.out.len, HD.out.len]
  have hgl9 := K9.lt
  have hag : ∀ p, aa = some p → p.block ≠ g := fun p hp => by subst hp; have := (o11.lt p.block rfl).1; omega
  have E12 := E9.trans E11
  have hg11 : g < W11.heap.size := K11.lt
  clear o10 o11 b10 b11 E9 K9 r9 E10 E11
  go_wp2_with fail
  generalize hF : (ser (x1 - n0) + 1) % 4294967296 = first
  have hfr : 0 ≤ first ∧ first < 4294967296 := by omega
  have HFIRST := Lib.hid hF
  clear hF
  go_loopw [22] (fun i wr => ∃ k : Nat, k ≤ n3 ∧ i = .int .i64 k ∧ W11.grownBy wr (some g) ∧ ∃ hd, StB wr g (.slice ha n0 hc) ((x1 + 1) % 4294967296) true hd) (fun i _ => n3 - (intOf i).toNat)
  case atStart => exact ⟨0, Nat.zero_le _, rfl, World.grownBy.refl _ _, false, K11⟩
  case round =>
    obtain ⟨k, hk, rfl, Gr, hd, Kr⟩ := hrel
    have Er : Ext w wr := Below.only E12 Gr E12.size hgB
    have IA := Lib.hid (i11.only Gr hag)
    have IH := Lib.hid (r11.only Gr hog)
    by_cases hk2 : k < n3
    case neg =>
      have hkn : ¬ (k : Int) < (n3 : Int) := by omega
      go_wp2_with fail
      go_ret
      exact ⟨rfl, Er⟩
    by_cases hk4 : k < 40
    case neg =>
      have hkn : ¬ (k : Int) < 40 := by omega
      go_wp2_with fail
      go_ret
      exact ⟨rfl, Er⟩
    obtain ⟨b3, f3, rfl, _, hcell3⟩ := (H3.out.1.ext Er).at (by omega)
    have e3 := hcell3 k hk2
    have hi3 := getD_all (P := IsInt) H3.out.2.1 (by unfold IsInt; omega) k
    generalize x3.getD k 0 = fr at *
    have hkn : (k : Int) < (n3 : Int) := by omega
    have hk40 : (k : Int) < 40 := by omega
    clear hcell3
    go_upto_if 118 with (fail)
    go_cut [24] (fun n wc => wr = wc ∧ ∃ ln : Int, n = .int .i64 ln ∧ IsInt ln)
    case first =>
      by_cases hL : k < n4
      case pos =>
        obtain ⟨b4, f4, rfl, _, hcell4⟩ := (H4.out.1.ext Er).at (by omega)
        have e4 := hcell4 k hL
        have hi4 := getD_all (P := IsInt) H4.out.2.1 (by unfold IsInt; omega) k
        generalize x4.getD k 0 = lr at *
        have hkL : (k : Int) < (n4 : Int) := by omega
        clear hcell4
        go_wp2_with fail
        go_meet
        exact ⟨rfl, lr, rfl, hi4⟩
      case neg =>
        have hkL : ¬ (k : Int) < (n4 : Int) := by omega
        go_wp2_with fail
        go_meet
        exact ⟨rfl, 0, rfl, by unfold IsInt; omega⟩
    case rest =>
      obtain ⟨rfl, ln, rfl, hil⟩ := hcut
      have hkr : ((k + 1 : Nat) : Int) = (k : Int) + 1 := by omega
      obtain ⟨l0, l1⟩ := hil
      obtain ⟨fr0, fr1⟩ := hi3
      by_cases g1 : fr < 0
      · go_wp2_with fail
        go_roundw
        case rel => exact ⟨k + 1, by omega, by go_num, Gr, hd, Kr⟩
        case measure => simp [intOf] <;> omega
      by_cases g2 : (n2 : Int) < fr
      · go_wp2_with fail
        go_roundw
        case rel => exact ⟨k + 1, by omega, by go_num, Gr, hd, Kr⟩
        case measure => simp [intOf] <;> omega
      by_cases g3 : ln < 0
      · go_wp2_with fail
        go_roundw
        case rel => exact ⟨k + 1, by omega, by go_num, Gr, hd, Kr⟩
        case measure => simp [intOf] <;> omega
      have ewd : IntKind.i64.wrap ((n2 : Int) - fr) = (n2 : Int) - fr := IntWalk.i64_in _ (by omega)
      by_cases g4 : (n2 : Int) - fr < ln
      · go_wp2_with fail
        go_roundw
        case rel => exact ⟨k + 1, by omega, by go_num, Gr, hd, Kr⟩
        case measure => simp [intOf] <;> omega
      obtain ⟨a, rfl⟩ := Int.eq_ofNat_of_zero_le (show 0 ≤ fr by omega)
      obtain ⟨len, rfl⟩ := Int.eq_ofNat_of_zero_le (show 0 ≤ ln by omega)
      have ew1 : IntKind.i64.wrap (x1 + 1) = x1 + 1 := IntWalk.i64_in _ (by omega)
      have ew2 : IntKind.i64.wrap (x1 + 1 + (a : Int)) = x1 + 1 + (a : Int) := IntWalk.i64_in _ (by omega)
      have ewr : IntKind.i64.wrap ((x1 + 1 + (a : Int)).tmod 4294967296) = (x1 + 1 + (a : Int)) % 4294967296 := by rw [Int.tmod_eq_emod_of_nonneg (by omega)]; exact IntWalk.i64_in _ (by omega)
      have ew3 : IntKind.i64.wrap ((a : Int) + (len : Int)) = (a : Int) + (len : Int) := IntWalk.i64_in _ (by omega)
      obtain ⟨AA, cc, hsub, hAn, hlcc, hrun⟩ := slice_bytes a2 n2 c2 a len (a : Int) ((a : Int) + (len : Int)) rfl (by simp) (by omega) hnc2 HDC.out
      have HSUB := Lib.hid hsub
      clear hsub
      go_wp2_with fail
      refine (up_data g ha n0 hc x0 ((x1 + 1) % 4294967296) hd ⟨6, 0, 0, (x1 + 1 + (a : Int)) % 4294967296, 0, 16, 0⟩ AA len cc ((x2.drop a).take len) wr (shFault_tcp _ 0 16 _ (by omega) (by omega) (by omega) (by omega) (by omega) (by omega) (by omega)) Kr (by omega) IH.out (HSUB.out wr x2 (HD.out.ext Er)) hAn hn rfl).mono ?_
      rintro e W13 hup
      obtain ⟨sq, at', L, v, rfl, o13, hatL, hat, ⟨sq0, sq1⟩, q13⟩ := seen_of (isn := x1) (hn := n0) (nd := n2) (a := a) HB.out.len HD.out.len hn (by omega) (by omega) hup
      rw [HFIRST.out] at hat
      obtain ⟨va, vn, vc, rfl, hvc, i13⟩ := o13.read
      obtain rfl : vn = L := by rw [← o13.len, List.length_take, List.length_drop, List.length_append, HB.out.len, HD.out.len]; omega
      have G13 := only_ext Gr q13
      have K13 := Blk.ext Kr q13
      clear ew1 ew2 ewr ew3 ewd hrun hup e3
      have G14 := only_ext G13 ((Ext.refl W13).alloc (.cells ((⟨6, 0, 0, sq, 0, 16, 0⟩ : Sg).cells (.slice va vn vc)) 47))
      have K14 := Blk.alloc K13 (.cells ((⟨6, 0, 0, sq, 0, 16, 0⟩ : Sg).cells (.slice va vn vc)) 47)
      have KB := Blk.new W13 47 ((⟨6, 0, 0, sq, 0, 16, 0⟩ : Sg).cells (.slice va vn vc))
      have i14 := i13.ext ((Ext.refl W13).alloc (.cells ((⟨6, 0, 0, sq, 0, 16, 0⟩ : Sg).cells (.slice va vn vc)) 47))
      have hz13 := K13.lt
      have hw13 : W11.heap.size ≤ W13.heap.size := G13.size
      unfold Sg.cells at G14 K14 KB i14 ⊢
      dsimp only at G14 K14 KB i14 ⊢
      go_upto_region 29 with (fail)
      refine at_worldC (fun W => W11.grownBy W (some g) ∧ StB W g (.slice ha n0 hc) ((x1 + 1) % 4294967296) true hd ∧ Blk W W13.heap.size 47 #[.int .i64 6, .int .i64 0, .int .i64 0, .int .i64 sq, .int .i64 0, .int .i64 16, .int .i64 0, .slice va vn vc] ∧ Ints .u8 W va vn (((x0 ++ x2).drop at').take vn)) ⟨G14, K14, KB, i14⟩ ?_
      clear G14 K14 KB i14 i13 o13 q13 G13 K13
      rintro W15 ⟨G15, K15, B15, i15⟩
      have hbg : W13.heap.size ≠ g := by omega
      have hbg' : ¬ g = W13.heap.size := by omega
      have hag2 : W11.heap.size ≤ W13.heap.size := hw13
      generalize W13.heap.size = B at *
      have c3 : W15.cell? ⟨B, 3, none⟩ = some (.int .i64 sq) := B15.cells 3
      have c7 : W15.cell? ⟨B, 7, none⟩ = some (.slice va vn vc) := B15.cells 7
      have ewA : IntKind.i64.wrap (sq - first) = sq - first := IntWalk.i64_in _ (by omega)
      have ewB : IntKind.i64.wrap (sq - first + 4294967296) = sq - first + 4294967296 := IntWalk.i64_in _ (by omega)
      have ewC : IntKind.i64.wrap ((sq - first + 4294967296).tmod 4294967296) = (at' : Int) := by rw [Int.tmod_eq_emod_of_nonneg (by omega), hat]; exact IntWalk.i64_in _ (by omega)
      have ewD : IntKind.i64.wrap ((at' : Int) + (vn : Int)) = (at' : Int) + (vn : Int) := IntWalk.i64_in _ (by omega)
      have hlN : decide ((nn : Int) < (at' : Int) + (vn : Int)) = false := by simp; omega
      obtain ⟨BB, dd, hsub2, _, _, hrun2⟩ := slice_bytes aa nn ac at' vn (at' : Int) ((at' : Int) + (vn : Int)) rfl (by simp) (by omega) hac hacn
      have ia15 := i11.only G15 hag
      have k1 := fun m => conv_str (c := dd) ((hsub2 _ _ ia15).ext ((Ext.refl W15).drewN m))
      have k2 := fun m => conv_str (c := vc) (i15.ext ((Ext.refl W15).drewN m))
      generalize strOfNums (((x0 ++ x2).drop at').take vn) = zs at k1 k2
      clear hsub2 i15 ia15
      go_upto_region 30 with (fail)
      go_quiet (fail)
      have G16 := only_ext G15 ((Ext.refl W15).drewN nq)
      have K16 := Blk.drewN K15 nq
      have B16 := B15.drewN nq
      go_upto_region 32 with (fail)
      refine at_worldC (fun W => W11.grownBy W (some g) ∧ StB W g (.slice ha n0 hc) ((x1 + 1) % 4294967296) true hd ∧ Blk W B 47 #[.int .i64 6, .int .i64 0, .int .i64 0, .int .i64 sq, .int .i64 0, .int .i64 16, .int .i64 0, .slice va vn vc]) ⟨G16, K16, B16⟩ ?_
      rintro W17 ⟨G17, K17, B17⟩
      clear G15 K15 B15 G16 K16 B16 c3 c7 ewA ewB ewC ewD hlN k1 k2 hrun2
      by_cases hk5 : k < n5
      case neg =>
        have hk5' : ¬ (k : Int) < (n5 : Int) := by omega
        go_wp2_with fail
        go_roundw
        case rel => exact ⟨k + 1, by omega, by go_num, G17, hd, K17⟩
        case measure => simp [intOf] <;> omega
      have hk5' : (k : Int) < (n5 : Int) := by omega
      have E17 : Ext w W17 := Below.only E12 G17 E12.size hgB
      obtain ⟨b5, f5, rfl, hbl5, hcell5⟩ := H5.out.1.at (by omega)
      have e5w := hcell5 k hk5
      have hi5 := getD_all (P := IsInt) H5.out.2.1 (by unfold IsInt; omega) k
      generalize x5.getD k 0 = av at *
      have E5W := Lib.hid e5w
      have e5 : W17.cell? ⟨b5, f5 + k, none⟩ = some (.int .i64 av) := (World.cell?_of_block (Below.block E17 b5 hbl5)).trans E5W.out
      clear hcell5 e5w
      by_cases hav : 0 ≤ av
      case neg =>
        go_wp2_with fail
        go_roundw
        case rel => exact ⟨k + 1, by omega, by go_num, G17, hd, K17⟩
        case measure => simp [intOf] <;> omega
      by_cases hav2 : av ≤ (nn : Int)
      case neg =>
        go_wp2_with fail
        go_roundw
        case rel => exact ⟨k + 1, by omega, by go_num, G17, hd, K17⟩
        case measure => simp [intOf] <;> omega
      have ewE : IntKind.i64.wrap (first + av) = first + av := IntWalk.i64_in _ (by omega)
      have ewF : IntKind.i64.wrap ((first + av).tmod 4294967296) = (first + av) % 4294967296 := by rw [Int.tmod_eq_emod_of_nonneg (by omega)]; exact IntWalk.i64_in _ (by omega)
      go_wp2_with fail
      have hdown := told_any g (.slice ha n0 hc) x1 n0 av hd W17 hn hav (by omega) K17
      rw [HFIRST.out] at hdown
      refine hdown.mono ?_
      clear hdown
      rintro e W18 ⟨ak, v', hd', rfl, o18, K18, q18, hak, ⟨ak0, ak1⟩⟩
      obtain ⟨wa, wn, wc', rfl, _, _⟩ := o18.read
      have B18 := B17.only q18 hbg
      have G18 := only_trans G17 q18
      have E18 : Ext w W18 := Below.only E12 G18 E12.size hgB
      have t18 := B18.store (ty := 47) (cs := (⟨6, 0, 0, 0, ak, 16, 0⟩ : Sg).cells (.slice wa wn wc')) rfl Try.sizeSeg (Sg.one _ _ _ _)
      unfold Sg.cells at t18 ⊢
      dsimp only at t18 ⊢
      clear e5
      go_upto_region 34 with ((apply store_by rfl _ _ _ rfl _ rfl); (focus (with_reducible assumption)); (focus rfl))
      refine at_worldC (fun W => W11.grownBy W (some g) ∧ StB W g (.slice ha n0 hc) ((x1 + 1) % 4294967296) true hd' ∧ Blk W B 47 #[.int .i64 6, .int .i64 0, .int .i64 0, .int .i64 0, .int .i64 ak, .int .i64 16, .int .i64 0, .slice wa wn wc']) ⟨only_row G18 hag2 _, Blk.farRow K18 (Ne.symm hbg) _, B18.row _⟩ ?_
      rintro W19 ⟨G19, K19, B19⟩
      clear t18 B18 G18 E18 K18 q18 o18 B17 G17 K17
      have E19 : Ext w W19 := Below.only E12 G19 E12.size hgB
      have e5 : W19.cell? ⟨b5, f5 + k, none⟩ = some (.int .i64 av) := (World.cell?_of_block (Below.block E19 b5 hbl5)).trans E5W.out
      have c4 : W19.cell? ⟨B, 4, none⟩ = some (.int .i64 ak) := B19.cells 4
      have ew1 : IntKind.i64.wrap (ak - x1) = ak - x1 := IntWalk.i64_in _ (by omega)
      have ew2 : IntKind.i64.wrap (ak - x1 - 1) = ak - x1 - 1 := IntWalk.i64_in _ (by omega)
      have ew3 : IntKind.i64.wrap (ak - x1 - 1 + 8589934592) = ak - x1 - 1 + 8589934592 := IntWalk.i64_in _ (by omega)
      have ew5 : IntKind.i64.wrap (av - (n0 : Int)) = av - (n0 : Int) := IntWalk.i64_in _ (by omega)
      by_cases hw : av - (n0 : Int) < 0
      case pos =>
        rw [if_pos hw] at hak
        have hbq : ((ak - x1 - 1 + 8589934592) % 4294967296 != 0) = false := by rw [hak]; rfl
        clear hak
        go_wp2_with fail
        go_roundw
        case rel => exact ⟨k + 1, by omega, by go_num, G19, hd', K19⟩
        case measure => simp [intOf] <;> omega
      case neg =>
        rw [if_neg hw] at hak
        have hbq : ((ak - x1 - 1 + 8589934592) % 4294967296 != av - (n0 : Int)) = false := by rw [hak]; simp
        clear hak
        go_wp2_with fail
        go_roundw
        case rel => exact ⟨k + 1, by omega, by go_num, G19, hd', K19⟩
        case measure => simp [intOf] <;> omega

set_option maxRecDepth 100000 in
theorem lifted (os : Os) (started : os.Started) (H : Type) (enc : TypeId × Value → H) :
    ReturnsInHanded {} Try.checked os 5 .any (Rows.shiftSeenSpec.pre6 enc Try.prog Try.f5 Rows.shiftSeenRow.domain false) (Rows.shiftSeenSpec.post enc Try.prog Try.f5 false true false false) := by
  refine returnsInHanded_of_change (C := Try.checked) own started (by kernel_rfl) Try.func5
    (ChangeSpec.witness6 (enc := enc) (C := Try.checked) false ⟨#[], #[.slice none 0 0, .int .i64 0, .slice none 0 0, .slice none 0 0, .slice none 0 0, .slice none 0 0], []⟩ 8 (by kernel_rfl) (by kernel_rfl) (by kernel_rfl) (by kernel_rfl)) ?_
  intro W base args ds gs before hval0 hW hcnd _
  have hval : ∀ (j : Nat) t v, Try.f5.params[j]? = some t → args[j]? = some v → Value.okWide Try.prog W .any base t v := hval0
  have hW' := hW
  obtain ⟨p, q, hA0, hV, rfl, hfz, hnd⟩ := hW
  have hA : DataW.TrodAll enc Try.prog W 0 (fun _ => true) true Try.f5.params.toList args.toList ds p := hA0
  rw [Try.params5] at hA hval
  obtain ⟨v0, vs0, d0, ds0, p0, q0, hargs, rfl, rfl, h0, r0⟩ := trodAll_cons hA
  obtain ⟨v1, vs1, d1, ds1, p1, q1, rfl, rfl, rfl, h1, r1⟩ := trodAll_cons r0
  obtain ⟨v2, vs2, d2, ds2, p2, q2, rfl, rfl, rfl, h2, r2⟩ := trodAll_cons r1
  obtain ⟨v3, vs3, d3, ds3, p3, q3, rfl, rfl, rfl, h3, r3⟩ := trodAll_cons r2
  obtain ⟨v4, vs4, d4, ds4, p4, q4, rfl, rfl, rfl, h4, r4⟩ := trodAll_cons r3
  obtain ⟨v5, vs5, d5, ds5, p5, q5, rfl, rfl, rfl, h5, r5⟩ := trodAll_cons r4
  obtain ⟨rfl, rfl, rfl⟩ := trodAll_nil r5
  obtain rfl : args = #[v0, v1, v2, v3, v4, v5] := by cases args; simp_all
  obtain ⟨rfl, rfl⟩ := trodVars_none hV
  have lt0 : ∀ x ∈ p0, x.block < W.heap.size := by obtain ⟨m, hm⟩ := h0; exact DataW.trod_lt m _ _ _ hm
  have k0 := h0
  obtain ⟨a0, n0, c0, rfl⟩ := okWide_slice Try.underlying41 (hval 0 41 v0 rfl rfl)
  obtain ⟨x0, w0⟩ := open_bytesz h0
  have lt1 : ∀ x ∈ p1, x.block < W.heap.size := by obtain ⟨m, hm⟩ := h1; exact DataW.trod_lt m _ _ _ hm
  have k1 := h1
  obtain ⟨x1, rfl, _, _, w1'⟩ := open_int Try.underlying3 (hval 1 3 v1 rfl rfl) h1
  have w1 : IsInt x1 := wf_i64 w1'
  have lt2 : ∀ x ∈ p2, x.block < W.heap.size := by obtain ⟨m, hm⟩ := h2; exact DataW.trod_lt m _ _ _ hm
  have k2 := h2
  obtain ⟨a2, n2, c2, rfl⟩ := okWide_slice Try.underlying41 (hval 2 41 v2 rfl rfl)
  obtain ⟨x2, w2⟩ := open_bytesz h2
  have lt3 : ∀ x ∈ p3, x.block < W.heap.size := by obtain ⟨m, hm⟩ := h3; exact DataW.trod_lt m _ _ _ hm
  have k3 := h3
  obtain ⟨a3, n3, c3, rfl⟩ := okWide_slice Try.underlying42 (hval 3 42 v3 rfl rfl)
  obtain ⟨x3, w3⟩ := open_intsl h3
  have lt4 : ∀ x ∈ p4, x.block < W.heap.size := by obtain ⟨m, hm⟩ := h4; exact DataW.trod_lt m _ _ _ hm
  have k4 := h4
  obtain ⟨a4, n4, c4, rfl⟩ := okWide_slice Try.underlying42 (hval 4 42 v4 rfl rfl)
  obtain ⟨x4, w4⟩ := open_intsl h4
  have lt5 : ∀ x ∈ p5, x.block < W.heap.size := by obtain ⟨m, hm⟩ := h5; exact DataW.trod_lt m _ _ _ hm
  have k5 := h5
  obtain ⟨a5, n5, c5, rfl⟩ := okWide_slice Try.underlying42 (hval 5 42 v5 rfl rfl)
  obtain ⟨x5, w5⟩ := open_intsl h5
  clear hA0 hval0
  refine (walk a0 n0 c0 x0 x1 a2 n2 c2 x2 a3 n3 c3 x3 a4 n4 c4 x4 a5 n5 c5 x5 W w0 w1 w2 w3 w4 w5).mono fun e W' ⟨he, bel⟩ => ?_
  subst he
  exact ⟨_, rfl, _, _, _, [], _, [], hW', trodAll_mk1 (shut_bool Try.underlying4 _), (trodAll_cons_mk (Below.trod laidOut (by kernel_rfl) (of_decide_eq_true (by kernel_rfl)) k0 bel lt0) (trodAll_cons_mk (Below.trod laidOut (by kernel_rfl) (of_decide_eq_true (by kernel_rfl)) k1 bel lt1) (trodAll_cons_mk (Below.trod laidOut (by kernel_rfl) (of_decide_eq_true (by kernel_rfl)) k2 bel lt2) (trodAll_cons_mk (Below.trod laidOut (by kernel_rfl) (of_decide_eq_true (by kernel_rfl)) k3 bel lt3) (trodAll_cons_mk (Below.trod laidOut (by kernel_rfl) (of_decide_eq_true (by kernel_rfl)) k4 bel lt4) (trodAll_cons_mk (Below.trod laidOut (by kernel_rfl) (of_decide_eq_true (by kernel_rfl)) k5 bel lt5) trodAll_mk0)))))), rfl, bel.frame _, fun h => by cases h⟩

theorem over : Rows.shiftSeenRow.holds Try.pinned (OpenSpec.ofChange Rows.shiftSeenSpec) :=
  OpenClaim.holds_of_wide 5 Try.f5 rfl rfl rfl rfl rfl rfl rfl ⟨rfl, rfl, rfl, rfl, rfl⟩ rfl rfl rfl rfl rfl (by kernel_rfl) Try.func5 (by kernel_rfl)
    (of_decide_eq_true (by kernel_rfl)) (by unfold Func.isWrapper; first | (rw [if_pos (by decide +kernel)]; kernel_rfl) | (rw [if_neg (by decide +kernel)]; exact ⟨rfl, rfl⟩))
    (fun os started H enc _ => lifted os started H enc)

/-- THE STATEMENT. -/
theorem proved : Rows.ShiftSeenSaid := over
#print axioms proved
end Go.Proofs.Ytoaahiclmodcgaa.shiftSeen
