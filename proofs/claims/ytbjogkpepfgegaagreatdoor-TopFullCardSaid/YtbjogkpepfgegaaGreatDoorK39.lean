/- The statements' own sent and back: a segment's packet as bytes. Conditions: as each lemma states them. -/
import Derived.Test.YtbjogkpepfgegaaGreatDoorK35
import Derived.Test.YtbjogkpepfgegaaGreatDoorK17
import Derived.Test.YtbjogkpepfgegaaGreatDoorK04
import Derived.Test.YtbjogkpepfgegaaGreatDoorK32
import Derived.Deep.DeepCutAuto
namespace Go.Proofs.YtbjogkpepfgegaaGreatDoor
open Go.RowKit
/-- May a segment's packet be? -/
def sentQ (s : Sg) (src dst : Six) (hop : Int) (D : List Int) : Bool :=
  ok6 src dst s.kind ((Pl.segSize s.kind : Int) + (D.length : Int)) && (decide (Pl.encF s (ov6 s src dst D.length) D.length = 0) && decide ((⟨src, dst, hop, s.kind⟩ : P6).fault (body6 s src dst D).length = 0))
def sentX (s : Sg) (src dst : Six) (hop : Int) (D : List Int) : List Int := if sentQ s src dst hop D = true then sent6 s src dst hop D else []
theorem sentQ_ok {s : Sg} {src dst : Six} {hop : Int} {D : List Int} (h : sentQ s src dst hop D = true) : SentOk s src dst hop D.length := by
  unfold sentQ at h
  simp only [Bool.and_eq_true, decide_eq_true_eq] at h
  obtain ⟨h1, h2, h3⟩ := h
  unfold ok6 at h1
  simp only [Bool.and_eq_true] at h1
  have hg : (⟨src, dst, hop, s.kind⟩ : P6).good = true := by
    unfold P6.fault at h3
    split at h3
    · assumption
    · cases h3
  unfold P6.good at hg
  simp only [Bool.and_eq_true] at hg
  exact ⟨(Pl.encF_zero h2).1, h1.1.1, h1.1.2, b8_yes hg.1.2⟩
theorem sentQ_of {s : Sg} {src dst : Six} {hop : Int} {D : List Int} (h : SentOk s src dst hop D.length) : sentQ s src dst hop D = true := by
  unfold sentQ
  simp only [Bool.and_eq_true, decide_eq_true_eq]
  refine ⟨ok6_seg h.seg h.src h.dst, Pl.encF_ok h.seg val6_word, ?_⟩
  unfold P6.fault
  rw [if_pos h.good, if_pos h.small]
theorem over6_wrap (src dst : Six) (k m : Int) (w : World) (h0 : 0 ≤ m) (h1 : m ≤ 9223372036854776000) :
    Calls Tryz.prog 24 #[src.v, dst.v, .int .i64 k, .int .i64 (IntKind.i64.wrap m)] w fun e w' => e = .returned (.tuple #[.int .i64 (bO (ok6 src dst k m) (val6 src dst k m)), erv (eO (ok6 src dst k m))]) ∧ Ext w w' := by
  by_cases hm : m ≤ 9223372036854775807
  · rw [IntWalk.i64_in _ (by omega)]
    exact over6_any src dst k m w
  · have hw : IntKind.i64.wrap m = m - 18446744073709551616 := by
      have := IntWalk.i64_in (m - 18446744073709551616) (by omega)
      rw [← this]
      simp [IntKind.wrap, IntKind.bits, IntKind.signed]
    have f1 : ok6 src dst k m = false := by
      unfold ok6 okO
      have : decide (m ≤ 320) = false := decide_eq_false (by omega)
      rw [this]
      simp
    have f2 : ok6 src dst k (m - 18446744073709551616) = false := by
      unfold ok6 okO
      have : decide (0 ≤ m - 18446744073709551616) = false := decide_eq_false (by omega)
      rw [this]
      simp
    rw [hw]
    refine (over6_any src dst k (m - 18446744073709551616) w).mono ?_
    rintro e w' ⟨rfl, q⟩
    rw [f1, f2]
    exact ⟨rfl, q⟩
set_option maxRecDepth 100000 in
set_option maxHeartbeats 4000000 in
theorem sent_small (s : Sg) (src dst : Six) (hop : Int) (a : Option Addr) (n c : Nat) (xs : List Int) (w : World) (hr : Ints .u8 w a n xs) (hb : Pl.IsB xs) (hn : n ≤ 4611686018427387904) :
    Calls Tryz.prog 9 #[s.v (.slice a n c), src.v, dst.v, .int .i64 hop] w fun e w' => (∃ v, e = .returned v ∧ Own w' w.heap.size v (sentX s src dst hop xs)) ∧ Ext w w' := by
  have KS := ((Blk.new w 40 (s.cells (.slice a n c))).alloc (.cells src.cells 23)).alloc (.cells dst.cells 23)
  have KA := (Blk.at (n := w.heap.size + 1) (w.alloc (.cells (s.cells (.slice a n c)) 40)) 23 src.cells (by simp)).alloc (.cells dst.cells 23)
  have KB := Blk.at (n := w.heap.size + 2) ((w.alloc (.cells (s.cells (.slice a n c)) 40)).alloc (.cells src.cells 23)) 23 dst.cells (by simp)
  have E0 : Ext w _ := (((Ext.refl w).alloc (.cells (s.cells (.slice a n c)) 40)).alloc (.cells src.cells 23)).alloc (.cells dst.cells 23)
  have HR := Lib.hid hr
  have HB := Lib.hid hb
  have hl := hr.len
  have HL := Lib.hid hl
  have HO6 := Lib.hid (fun (W : World) => over6_any src dst s.kind ((Pl.segSize s.kind : Int) + (n : Int)) W)
  have h3 := Pl.segSize_le s.kind
  have HX := Lib.hid (show sentX s src dst hop xs = if (ok6 src dst s.kind ((Pl.segSize s.kind : Int) + (n : Int)) && (decide (Pl.encF s (ov6 s src dst n) n = 0) && decide ((⟨src, dst, hop, s.kind⟩ : P6).fault (body6 s src dst xs).length = 0))) = true then sent6 s src dst hop xs else [] by unfold sentX sentQ; rw [hl])
  have HEN := Lib.hid (fun (W : World) (q : Ext w W) => sEncode_any s a n c xs (ov6 s src dst n) W (hr.ext q) hb)
  have HBD := Lib.hid (show Pl.encF s (ov6 s src dst n) n = 0 → Pl.encB s (ov6 s src dst n) xs = body6 s src dst xs from fun h0 => by unfold Pl.encB body6; rw [hl, if_pos h0])
  rw [hl] at HEN
  unfold ov6 at HX HEN HBD
  clear hr hb hl
  unfold Six.v at *
  generalize val6 src dst s.kind ((Pl.segSize s.kind : Int) + (n : Int)) = O at *
  generalize ok6 src dst s.kind ((Pl.segSize s.kind : Int) + (n : Int)) = OK at *
  go_enter Tryz.func9, Tryz.ntmps9
  go_upto_region 2 with (fail)
  refine at_worldE (fun W => Ext w W ∧ Blk W w.heap.size 40 (s.cells (.slice a n c)) ∧ Blk W (w.heap.size + 1) 23 src.cells ∧ Blk W (w.heap.size + 2) 23 dst.cells) ⟨E0, KS, KA, KB⟩ ?_
  clear E0 KS KA KB
  rintro W1 ⟨E1, KS, KA, KB⟩
  obtain ⟨c0, _, _, _, _, _, _, c7⟩ := KS.sg
  go_upto_if 16 with (fail)
  go_cut [9] (fun v wc => W1 = wc ∧ v = .int .i64 (Pl.segSize s.kind : Nat))
  case first =>
    by_cases hk : s.kind = 6
    · have hb : (s.kind == 6) = true := by simp [hk]
      have HS := Lib.hid (show Pl.segSize s.kind = 20 by unfold Pl.segSize; rw [if_pos hk])
      clear hk
      go_wp2_with fail
      go_meet
      exact ⟨rfl, by rw [HS.out]; rfl⟩
    · have hb : (s.kind == 6) = false := by simp [hk]
      have HS := Lib.hid (show Pl.segSize s.kind = 8 by unfold Pl.segSize; rw [if_neg hk])
      clear hk
      go_wp2_with fail
      go_meet
      exact ⟨rfl, by rw [HS.out]; rfl⟩
  obtain ⟨rfl, rfl⟩ := hcut
  generalize hZ : Pl.segSize s.kind = Z at *
  have ew : IntKind.i64.wrap ((Z : Int) + (n : Int)) = (Z : Int) + (n : Int) := IntWalk.i64_in _ (by omega)
  have la : (Instr.loadAt 23 (.pointer (some ⟨w.heap.size + 1, 0, none⟩))).run Tryz.prog W1 = .ok (.agg #[.int .i64 src.x0, .int .i64 src.x1, .int .i64 src.x2, .int .i64 src.x3, .int .i64 src.x4, .int .i64 src.x5, .int .i64 src.x6, .int .i64 src.x7]) W1 := KA.six0
  have lb : (Instr.loadAt 23 (.pointer (some ⟨w.heap.size + 2, 0, none⟩))).run Tryz.prog W1 = .ok (.agg #[.int .i64 dst.x0, .int .i64 dst.x1, .int .i64 dst.x2, .int .i64 dst.x3, .int .i64 dst.x4, .int .i64 dst.x5, .int .i64 dst.x6, .int .i64 dst.x7]) W1 := KB.six0
  go_wp2_with ((apply load_by rfl _ _ rfl _ rfl); (focus (with_reducible assumption)))
  refine (HO6.out _).mono ?_
  rintro e W2 ⟨rfl, q2⟩
  have E2 := E1.trans q2
  replace KS := KS.ext q2
  replace KA := KA.ext q2
  replace KB := KB.ext q2
  clear la lb E1 q2 c0 c7
  cases OK with
  | false =>
    have HE := Lib.hid E2
    clear E2 KS KA KB
    have e0 : erv (eO false) = errv 1 := rfl
    have e1 : bO false O = 0 := rfl
    rw [e0, e1]
    unfold errv
    clear e0 e1
    go_wp2_with fail
    go_returns
    rw [HX.out]
    exact ⟨⟨_, rfl, Own.nil _ _⟩, HE.out⟩
  | true =>
    have e0 : erv (eO true) = .nilIface := rfl
    have e1 : bO true O = O := rfl
    rw [e0, e1]
    clear e0 e1
    have HX2 := Lib.hid (show sentX s src dst hop xs = if (decide (Pl.encF s O n = 0) && decide ((⟨src, dst, hop, s.kind⟩ : P6).fault (body6 s src dst xs).length = 0)) = true then sent6 s src dst hop xs else [] by rw [HX.out]; rfl)
    clear HX
    have ld := KS.seg
    go_wp2_with ((apply load_by rfl _ _ rfl _ rfl); (focus (with_reducible assumption)))
    refine (HEN.out W2 E2).mono ?_
    rintro e W3 ⟨v3, rfl, o3, q3⟩
    have E3 := E2.trans q3
    have hs3 := E2.size
    replace KS := KS.ext q3
    replace KA := KA.ext q3
    replace KB := KB.ext q3
    clear ld E2 q3
    by_cases hen : Pl.encF s O n = 0
    case neg =>
      have HX3 := Lib.hid (show sentX s src dst hop xs = [] by rw [HX2.out]; simp [hen])
      rw [erv_ne hen]
      unfold errv
      have HE := Lib.hid E3
      clear hen E3 KS KA KB o3
      obtain ⟨v4, hv4⟩ : ∃ v4, v4 = v3 := ⟨_, rfl⟩
      rw [← hv4]
      clear hv4
      go_wp2_with fail
      go_returns
      rw [HX3.out]
      exact ⟨⟨_, rfl, Own.nil _ _⟩, HE.out⟩
    rw [HBD.out hen] at o3
    rw [hen, erv_zero]
    obtain ⟨a3, n3, c3, rfl, hn3, r3, _⟩ := o3.readn
    have hl3 := r3.len
    have HSB := Lib.hid (show sent6 s src dst hop xs = Pl.enc6 ⟨src, dst, hop, s.kind⟩ (body6 s src dst xs) from rfl)
    have HX3 := Lib.hid (show sentX s src dst hop xs = if (⟨src, dst, hop, s.kind⟩ : P6).fault n3 = 0 then Pl.enc6 ⟨src, dst, hop, s.kind⟩ (body6 s src dst xs) else [] by rw [HX2.out, hl3]; simp [hen, HSB.out])
    clear hen HX2 o3
    have la : (Instr.loadAt 23 (.pointer (some ⟨w.heap.size + 1, 0, none⟩))).run Tryz.prog W3 = .ok (.agg #[.int .i64 src.x0, .int .i64 src.x1, .int .i64 src.x2, .int .i64 src.x3, .int .i64 src.x4, .int .i64 src.x5, .int .i64 src.x6, .int .i64 src.x7]) W3 := KA.six0
    have lb : (Instr.loadAt 23 (.pointer (some ⟨w.heap.size + 2, 0, none⟩))).run Tryz.prog W3 = .ok (.agg #[.int .i64 dst.x0, .int .i64 dst.x1, .int .i64 dst.x2, .int .i64 dst.x3, .int .i64 dst.x4, .int .i64 dst.x5, .int .i64 dst.x6, .int .i64 dst.x7]) W3 := KB.six0
    have c0 : W3.cell? ⟨w.heap.size, 0, none⟩ = some (.int .i64 s.kind) := KS.cells 0
    have hs3' := E3.size
    clear KS KA KB
    by_cases hf : (⟨src, dst, hop, s.kind⟩ : P6).fault n3 = 0
    case neg =>
      have HC := Lib.hid (encode6_bad ⟨src, dst, hop, s.kind⟩ a3 n3 c3 W3 hf)
      rw [if_neg hf] at HX3
      rw [erv_ne hf] at HC
      have HE := Lib.hid E3
      unfold errv at HC
      clear hf E3 r3
      go_wp2_with ((apply load_by rfl _ _ rfl _ rfl); (focus (with_reducible assumption)))
      refine HC.out.mono ?_
      rintro e W4 ⟨rfl, q4⟩
      go_wp2_with fail
      go_returns
      rw [HX3.out]
      exact ⟨⟨_, rfl, Own.nil _ _⟩, HE.out.trans q4⟩
    have HC := Lib.hid (encode6_ok ⟨src, dst, hop, s.kind⟩ a3 n3 c3 (body6 s src dst xs) W3 hf r3)
    rw [if_pos hf] at HX3
    have HE := Lib.hid E3
    clear hf E3 r3
    go_wp2_with ((apply load_by rfl _ _ rfl _ rfl); (focus (with_reducible assumption)))
    refine HC.out.mono ?_
    rintro e W4 ⟨v4, rfl, o4, q4⟩
    have HO4 := Lib.hid (o4.mono hs3')
    clear o4
    go_wp2_with fail
    go_returns
    rw [HX3.out]
    exact ⟨⟨v4, rfl, HO4.out⟩, HE.out.trans q4⟩
set_option maxRecDepth 100000 in
set_option maxHeartbeats 2000000 in
theorem sent_big (s : Sg) (src dst : Six) (hop : Int) (a : Option Addr) (n c : Nat) (xs : List Int) (w : World) (hr : Ints .u8 w a n xs) (hn : 4611686018427387904 < n) (hn2 : n ≤ maxLen) :
    Calls Tryz.prog 9 #[s.v (.slice a n c), src.v, dst.v, .int .i64 hop] w fun e w' => (∃ v, e = .returned v ∧ Own w' w.heap.size v (sentX s src dst hop xs)) ∧ Ext w w' := by
  have KS := ((Blk.new w 40 (s.cells (.slice a n c))).alloc (.cells src.cells 23)).alloc (.cells dst.cells 23)
  have KA := (Blk.at (n := w.heap.size + 1) (w.alloc (.cells (s.cells (.slice a n c)) 40)) 23 src.cells (by simp)).alloc (.cells dst.cells 23)
  have KB := Blk.at (n := w.heap.size + 2) ((w.alloc (.cells (s.cells (.slice a n c)) 40)).alloc (.cells src.cells 23)) 23 dst.cells (by simp)
  have E0 : Ext w _ := (((Ext.refl w).alloc (.cells (s.cells (.slice a n c)) 40)).alloc (.cells src.cells 23)).alloc (.cells dst.cells 23)
  have h3 := Pl.segSize_le s.kind
  have hko : ok6 src dst s.kind ((Pl.segSize s.kind : Int) + (n : Int)) = false := by
    unfold ok6 okO
    have : decide ((Pl.segSize s.kind : Int) + (n : Int) ≤ 320) = false := decide_eq_false (by omega)
    rw [this]
    simp
  have HO6 := Lib.hid (fun (W : World) => over6_wrap src dst s.kind ((Pl.segSize s.kind : Int) + (n : Int)) W (by omega) (by unfold maxLen at hn2; omega))
  rw [hko] at HO6
  have HX := Lib.hid (show sentX s src dst hop xs = [] by unfold sentX sentQ; rw [hr.len, hko]; rfl)
  clear hko hr hn hn2 h3
  unfold Six.v at *
  go_enter Tryz.func9, Tryz.ntmps9
  go_upto_region 2 with (fail)
  refine at_worldE (fun W => Ext w W ∧ Blk W w.heap.size 40 (s.cells (.slice a n c)) ∧ Blk W (w.heap.size + 1) 23 src.cells ∧ Blk W (w.heap.size + 2) 23 dst.cells) ⟨E0, KS, KA, KB⟩ ?_
  clear E0 KS KA KB
  rintro W1 ⟨E1, KS, KA, KB⟩
  obtain ⟨c0, _, _, _, _, _, _, c7⟩ := KS.sg
  go_upto_if 16 with (fail)
  go_cut [9] (fun v wc => W1 = wc ∧ v = .int .i64 (Pl.segSize s.kind : Nat))
  case first =>
    by_cases hk : s.kind = 6
    · have hb : (s.kind == 6) = true := by simp [hk]
      have HS := Lib.hid (show Pl.segSize s.kind = 20 by unfold Pl.segSize; rw [if_pos hk])
      clear hk
      go_wp2_with fail
      go_meet
      exact ⟨rfl, by rw [HS.out]; rfl⟩
    · have hb : (s.kind == 6) = false := by simp [hk]
      have HS := Lib.hid (show Pl.segSize s.kind = 8 by unfold Pl.segSize; rw [if_neg hk])
      clear hk
      go_wp2_with fail
      go_meet
      exact ⟨rfl, by rw [HS.out]; rfl⟩
  obtain ⟨rfl, rfl⟩ := hcut
  generalize Pl.segSize s.kind = Z at *
  obtain ⟨V, hV⟩ : ∃ V, IntKind.i64.wrap ((Z : Int) + (n : Int)) = V := ⟨_, rfl⟩
  rw [hV] at HO6
  have la : (Instr.loadAt 23 (.pointer (some ⟨w.heap.size + 1, 0, none⟩))).run Tryz.prog W1 = .ok (.agg #[.int .i64 src.x0, .int .i64 src.x1, .int .i64 src.x2, .int .i64 src.x3, .int .i64 src.x4, .int .i64 src.x5, .int .i64 src.x6, .int .i64 src.x7]) W1 := KA.six0
  have lb : (Instr.loadAt 23 (.pointer (some ⟨w.heap.size + 2, 0, none⟩))).run Tryz.prog W1 = .ok (.agg #[.int .i64 dst.x0, .int .i64 dst.x1, .int .i64 dst.x2, .int .i64 dst.x3, .int .i64 dst.x4, .int .i64 dst.x5, .int .i64 dst.x6, .int .i64 dst.x7]) W1 := KB.six0
  have e0 : erv (eO false) = errv 1 := rfl
  have e1 : ∀ O : Int, bO false O = 0 := fun _ => rfl
  rw [e0] at HO6
  simp only [e1] at HO6
  unfold errv at HO6
  clear e0 e1 KS KA KB
  go_wp2_with ((apply load_by rfl _ _ rfl _ rfl); (focus (with_reducible assumption)))
  refine (HO6.out _).mono ?_
  rintro e W2 ⟨rfl, q2⟩
  have HE := Lib.hid (E1.trans q2)
  clear la lb c0 c7 hV E1 q2
  go_wp2_with fail
  go_returns
  rw [HX.out]
  exact ⟨⟨_, rfl, Own.nil _ _⟩, HE.out⟩
theorem sent_any (s : Sg) (src dst : Six) (hop : Int) (a : Option Addr) (n c : Nat) (xs : List Int) (w : World) (hr : Ints .u8 w a n xs) (hb : Pl.IsB xs) (hn : n ≤ maxLen) :
    Calls Tryz.prog 9 #[s.v (.slice a n c), src.v, dst.v, .int .i64 hop] w fun e w' => (∃ v, e = .returned v ∧ Own w' w.heap.size v (sentX s src dst hop xs)) ∧ Ext w w' := by
  by_cases h : n ≤ 4611686018427387904
  · exact sent_small s src dst hop a n c xs w hr hb h
  · exact sent_big s src dst hop a n c xs w hr (by omega) hn
end Go.Proofs.YtbjogkpepfgegaaGreatDoor
