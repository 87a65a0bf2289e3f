/- A config: its cells, what is wrong with it; the contracts of gate.Check and of the document's ConfigFault. Conditions: as each lemma states them. -/
import Derived.Test.YtbjogkpepfgegaaGreatDoorK16
import Derived.Test.YtbjogkpepfgegaaGreatDoorK02
import Derived.Deep.DeepCutAuto
namespace Go.Proofs.YtbjogkpepfgegaaGreatDoor
open Go.RowKit
namespace Pl
/-- The first place that is not fine; all are: their number. -/
theorem fine_first (bs : List Back) : ∀ n, n ≤ bs.length → ∃ k, k ≤ n ∧ (∀ j, j < k → Fine bs j) ∧ (k = n ∨ ¬ Fine bs k)
  | 0, _ => ⟨0, Nat.le_refl _, fun j h => by omega, .inl rfl⟩
  | n + 1, hn => by
    obtain ⟨k, hk, hf, hc⟩ := fine_first bs n (by omega)
    rcases hc with rfl | hc
    · by_cases h : Fine bs k
      · exact ⟨k + 1, Nat.le_refl _, fun j hj => by
          by_cases he : j = k
          · rw [he]; exact h
          · exact hf j (by omega), .inl rfl⟩
      · exact ⟨k, by omega, hf, .inr h⟩
    · exact ⟨k, by omega, hf, .inr hc⟩
theorem PF.ex (bs : List Back) : ∃ i q : Int, PF bs i q := by
  unfold PF
  by_cases h8 : 8 < bs.length
  · simp only [if_pos h8]
    exact ⟨0, 3, rfl, rfl⟩
  · simp only [if_neg h8]
    obtain ⟨k, hk, hf, hc⟩ := fine_first bs bs.length (Nat.le_refl _)
    by_cases hkn : k = bs.length
    · exact ⟨0, 0, k, hf, .inl ⟨hkn, rfl, rfl⟩⟩
    · have hno : ¬ Fine bs k := by
        rcases hc with h | h
        · exact absurd h hkn
        · exact h
      by_cases hnum : (bs.getD k back0).Num
      · have : ∃ m, m < k ∧ (bs.getD m back0).id = (bs.getD k back0).id := Classical.byContradiction fun hne => hno ⟨hnum, fun m hm he => hne ⟨m, hm, he⟩⟩
        exact ⟨k, 8, k, hf, .inr (.inr ⟨by omega, hnum, this, rfl, rfl⟩)⟩
      · exact ⟨k, 1, k, hf, .inr (.inl ⟨by omega, hnum, rfl, rfl⟩)⟩
end Pl
/-- A config, but for its servers. -/
structure Cfg where
  vip : Six
  door : Int
  pre : Six
  len : Int
  near : Int
  seed : Int
  blocks : Int
  inj : Bool
def Cfg.cells (c : Cfg) (b : Value) : Array Value := #[.int .i64 c.vip.x0, .int .i64 c.vip.x1, .int .i64 c.vip.x2, .int .i64 c.vip.x3, .int .i64 c.vip.x4, .int .i64 c.vip.x5, .int .i64 c.vip.x6, .int .i64 c.vip.x7, .int .i64 c.door, .int .i64 c.pre.x0, .int .i64 c.pre.x1, .int .i64 c.pre.x2, .int .i64 c.pre.x3, .int .i64 c.pre.x4, .int .i64 c.pre.x5, .int .i64 c.pre.x6, .int .i64 c.pre.x7, .int .i64 c.len, .int .i64 c.near, .int .i64 c.seed, .int .i64 c.blocks, .bool c.inj, b]
abbrev Cfg.v (c : Cfg) (b : Value) : Value := .agg (c.cells b)
theorem Tryz.sizeCfg : (Tryz.prog.info? 26).map (·.size) = some 23 := by kernel_rfl
section
variable {w : World} {g : Nat} {t : TypeId} {c : Cfg} {b : Value}
theorem Blk.cfg (h : Blk w g t (c.cells b)) : (Instr.loadAt 26 (.pointer (some ⟨g, 0, none⟩))).run Tryz.prog w = .ok (.agg (c.cells b)) w := by
  have := run_loadAt_mid (P := Tryz.prog) w g 0 26 (c.cells b).toList _ (fun j v hv => by
    rw [Array.getElem?_toList] at hv
    rw [h.cells, Nat.zero_add]; exact hv) Tryz.underlying26 rfl Tryz.sizeCfg
  rw [Array.toArray_toList] at this
  exact this
theorem Blk.cfgVip (h : Blk w g t (c.cells b)) : (Instr.loadAt 23 (.pointer (some ⟨g, 0, none⟩))).run Tryz.prog w = .ok (.agg c.vip.cells) w :=
  h.six 0 c.vip fun j hj => by
    have h : j = 0 ∨ j = 1 ∨ j = 2 ∨ j = 3 ∨ j = 4 ∨ j = 5 ∨ j = 6 ∨ j = 7 := by omega
    rcases h with rfl | rfl | rfl | rfl | rfl | rfl | rfl | rfl <;> rfl
theorem Blk.cfgPre (h : Blk w g t (c.cells b)) : (Instr.loadAt 23 (.pointer (some ⟨g, 9, none⟩))).run Tryz.prog w = .ok (.agg c.pre.cells) w :=
  h.six 9 c.pre fun j hj => by
    have h : j = 0 ∨ j = 1 ∨ j = 2 ∨ j = 3 ∨ j = 4 ∨ j = 5 ∨ j = 6 ∨ j = 7 := by omega
    rcases h with rfl | rfl | rfl | rfl | rfl | rfl | rfl | rfl <;> rfl
end
def Cfg.numB (c : Cfg) : Bool := w32 c.near && (decide (0 ≤ c.seed) && (decide (c.seed < 2147483648) && (decide (1 ≤ c.blocks) && decide (c.blocks ≤ 16))))
/-- What is wrong with a config, its servers' fault being q. -/
def Cfg.err (c : Cfg) (q : Int) : Int :=
  if okS c.vip = true then (if w16 c.door = true then (if Pl.pfxErr c.pre c.len = 0 then (if c.numB = true then (if q = 0 then (if Pl.inB c.vip c.pre c.len.toNat = true then 2 else 0) else q) else 1) else Pl.pfxErr c.pre c.len) else 1) else 1
theorem Blk.cfgNums {w : World} {g : Nat} {t : TypeId} {c : Cfg} {b : Value} (h : Blk w g t (c.cells b)) : w.cell? ⟨g, 8, none⟩ = some (.int .i64 c.door) ∧ w.cell? ⟨g, 17, none⟩ = some (.int .i64 c.len) ∧ w.cell? ⟨g, 18, none⟩ = some (.int .i64 c.near) ∧ w.cell? ⟨g, 19, none⟩ = some (.int .i64 c.seed) ∧ w.cell? ⟨g, 20, none⟩ = some (.int .i64 c.blocks) ∧ w.cell? ⟨g, 22, none⟩ = some b :=
  ⟨h.cells 8, h.cells 17, h.cells 18, h.cells 19, h.cells 20, h.cells 22⟩
theorem w16_ind {n : Int} : (w16 n = true → decide (n < 0) = false ∧ decide (65535 < n) = false) ∧ (w16 n = false → decide (n < 0) = true ∨ (decide (n < 0) = false ∧ decide (65535 < n) = true)) := by
  unfold w16
  constructor
  · intro h
    simp at h
    exact ⟨decide_eq_false (by omega), decide_eq_false (by omega)⟩
  · intro h
    by_cases h0 : n < 0
    · exact .inl (decide_eq_true h0)
    · refine .inr ⟨decide_eq_false h0, decide_eq_true ?_⟩
      simp at h
      have := h (by omega)
      omega
/-- Which test of the numbers fails first. -/
def Cfg.Bad (c : Cfg) (b : Bool) : Prop := b = false ∨ (b = true ∧ (c.seed < 0 ∨ (0 ≤ c.seed ∧ (2147483648 ≤ c.seed ∨ (c.seed < 2147483648 ∧ (c.blocks < 1 ∨ (1 ≤ c.blocks ∧ 16 < c.blocks)))))))
theorem Cfg.numB_no {c : Cfg} (h : c.numB = false) : c.Bad (w32 c.near) := by
  unfold Cfg.numB at h
  unfold Cfg.Bad
  cases hw : w32 c.near
  · exact .inl rfl
  · refine .inr ⟨rfl, ?_⟩
    rw [hw] at h
    simp at h
    omega
theorem Cfg.numB_yes {c : Cfg} (h : c.numB = true) : w32 c.near = true ∧ 0 ≤ c.seed ∧ c.seed < 2147483648 ∧ 1 ≤ c.blocks ∧ c.blocks ≤ 16 := by
  unfold Cfg.numB at h
  simp at h
  exact h
set_option maxRecDepth 100000 in
set_option maxHeartbeats 2000000 in
theorem gcheck_any (c : Cfg) (a : Option Addr) (n m : Nat) (bs : List Pl.Back) (i q : Int) (w : World) (hb : Backs w a n bs) (hnm : n ≤ m) (hp : Pl.PF bs i q) :
    Calls Tryz.prog 19 #[c.v (.slice a n m)] w fun e w' => e = .returned (erv (c.err q)) ∧ Ext w w' := by
  have KC := Blk.new w 26 (c.cells (.slice a n m))
  have E0 := (Ext.refl w).alloc (.cells (c.cells (.slice a n m)) 26)
  have HB := Lib.hid hb
  have HP := Lib.hid hp
  clear hb hp
  go_enter Tryz.func19, Tryz.ntmps19
  go_upto_region 1 with (fail)
  refine at_worldE (fun W => Ext w W ∧ Blk W w.heap.size 26 (c.cells (.slice a n m))) ⟨E0, KC⟩ ?_
  clear E0 KC
  rintro W1 ⟨E1, KC⟩
  have ld := KC.cfgVip
  cases ho : okS c.vip
  case false =>
    have HE := Lib.hid (show c.err q = 1 by unfold Cfg.err; rw [ho]; rfl)
    have HO := Lib.hid ho
    clear ho
    go_wp2_with ((apply load_by rfl _ _ rfl _ rfl); (focus (with_reducible assumption)))
    refine (check6_no c.vip W1 HO.out).mono ?_
    rintro e W2 ⟨rfl, q2⟩
    unfold errv
    go_wp2_with fail
    go_returns
    exact ⟨by rw [HE.out]; rfl, E1.trans q2⟩
  have HO := Lib.hid ho
  have e1 : c.err q = if w16 c.door = true then (if Pl.pfxErr c.pre c.len = 0 then (if c.numB = true then (if q = 0 then (if Pl.inB c.vip c.pre c.len.toNat = true then 2 else 0) else q) else 1) else Pl.pfxErr c.pre c.len) else 1 := by unfold Cfg.err; rw [if_pos ho]
  clear ho
  go_wp2_with ((apply load_by rfl _ _ rfl _ rfl); (focus (with_reducible assumption)))
  refine (check6_yes c.vip W1 HO.out).mono ?_
  rintro e W2 ⟨rfl, q2⟩
  replace E1 := E1.trans q2
  replace KC := KC.ext q2
  obtain ⟨c8, c17, c18, c19, c20, c22⟩ := KC.cfgNums
  have ldp := KC.cfgPre
  have H1 := Lib.hid e1
  clear ld e1 q2
  cases hd : w16 c.door
  case false =>
    have HE := Lib.hid (show c.err q = 1 by rw [H1.out, hd]; rfl)
    rcases w16_ind.2 hd with h | ⟨h0, h⟩
    · clear hd
      go_wp2_with fail
      go_returns
      exact ⟨by rw [HE.out]; rfl, E1⟩
    · clear hd
      go_wp2_with fail
      go_returns
      exact ⟨by rw [HE.out]; rfl, E1⟩
  obtain ⟨d0, d1⟩ := w16_ind.1 hd
  rw [hd, if_pos rfl] at H1
  clear hd
  go_wp2_with ((apply load_by rfl _ _ rfl _ rfl); (focus (with_reducible assumption)))
  refine (echeck_any c.pre c.len W2).mono ?_
  rintro e W3 ⟨rfl, q3⟩
  replace E1 := E1.trans q3
  replace KC := KC.ext q3
  clear c8 c17 c18 c19 c20 c22 ldp q3
  obtain ⟨c8, c17, c18, c19, c20, c22⟩ := KC.cfgNums
  by_cases hp : Pl.pfxErr c.pre c.len = 0
  case neg =>
    have HE := Lib.hid (show c.err q = Pl.pfxErr c.pre c.len by rw [H1.out, if_neg hp])
    rw [erv_ne hp]
    have HN := Lib.hid hp
    unfold errv
    clear hp
    go_wp2_with fail
    go_returns
    exact ⟨by rw [HE.out, erv_ne HN.out]; rfl, E1⟩
  rw [hp, erv_zero]
  rw [if_pos hp] at H1
  have HPX := Lib.hid hp
  clear hp
  go_wp2_with fail
  refine (is_any c.near W3).mono ?_
  rintro e W3' ⟨rfl, rfl⟩
  cases hnb : c.numB
  case false =>
    have HE := Lib.hid (show c.err q = 1 by rw [H1.out, hnb]; rfl)
    have hbad := Cfg.numB_no hnb
    clear hnb
    rcases hbad with h | ⟨h, hbad⟩
    · rw [h]
      clear h
      go_wp2_with fail
      go_returns
      exact ⟨by rw [HE.out]; rfl, E1⟩
    · rw [h]
      clear h
      rcases hbad with h | ⟨h0, h | ⟨h1, h | ⟨h2, h⟩⟩⟩
      · have d1 : decide (c.seed < 0) = true := decide_eq_true h
        clear h
        go_wp2_with fail
        go_returns
        exact ⟨by rw [HE.out]; rfl, E1⟩
      · have d1 : decide (c.seed < 0) = false := decide_eq_false (by omega)
        have d2 : decide (2147483648 ≤ c.seed) = true := decide_eq_true (by omega)
        clear h h0
        go_wp2_with fail
        go_returns
        exact ⟨by rw [HE.out]; rfl, E1⟩
      · have d1 : decide (c.seed < 0) = false := decide_eq_false (by omega)
        have d2 : decide (2147483648 ≤ c.seed) = false := decide_eq_false (by omega)
        have d3 : decide (c.blocks < 1) = true := decide_eq_true h
        clear h h0 h1
        go_wp2_with fail
        go_returns
        exact ⟨by rw [HE.out]; rfl, E1⟩
      · have d1 : decide (c.seed < 0) = false := decide_eq_false (by omega)
        have d2 : decide (2147483648 ≤ c.seed) = false := decide_eq_false (by omega)
        have d3 : decide (c.blocks < 1) = false := decide_eq_false (by omega)
        have d4 : decide (16 < c.blocks) = true := decide_eq_true h
        clear h h0 h1 h2
        go_wp2_with fail
        go_returns
        exact ⟨by rw [HE.out]; rfl, E1⟩
  obtain ⟨hw, h0, h1, h2, h3⟩ := Cfg.numB_yes hnb
  have d1 : decide (c.seed < 0) = false := decide_eq_false (by omega)
  have d2 : decide (2147483648 ≤ c.seed) = false := decide_eq_false (by omega)
  have d3 : decide (c.blocks < 1) = false := decide_eq_false (by omega)
  have d4 : decide (16 < c.blocks) = false := decide_eq_false (by omega)
  rw [hnb, if_pos rfl] at H1
  rw [hw]
  clear hnb hw h0 h1 h2 h3
  go_wp2_with fail
  refine (pcheck_all a n m bs W3 (HB.out.ext E1) hnm).mono ?_
  rintro e W4 ⟨⟨i', q', hp', rfl⟩, q4⟩
  obtain ⟨rfl, rfl⟩ := hp'.one HP.out
  replace E1 := E1.trans q4
  replace KC := KC.ext q4
  clear c8 c17 c18 c19 c20 c22 q4 d1 d2 d3 d4 hp'
  obtain ⟨c8, c17, c18, c19, c20, c22⟩ := KC.cfgNums
  by_cases hq : q' = 0
  case neg =>
    have HE := Lib.hid (show c.err q' = q' by rw [H1.out, if_neg hq])
    rw [erv_ne hq]
    have HN := Lib.hid hq
    unfold errv
    clear hq
    go_wp2_with fail
    go_returns
    exact ⟨by rw [HE.out, erv_ne HN.out]; rfl, E1⟩
  subst hq
  rw [erv_zero]
  rw [if_pos rfl] at H1
  have la := KC.cfgVip
  have lb := KC.cfgPre
  obtain ⟨hop, hlong, _⟩ := Pl.pfx_zero HPX.out
  obtain ⟨N, hN, hN128⟩ : ∃ N : Nat, c.len = (N : Int) ∧ N ≤ 128 := by
    have := Pl.longB_yes hlong
    exact ⟨c.len.toNat, by omega, by omega⟩
  rw [hN] at c17 H1
  rw [Int.toNat_natCast] at H1
  go_wp2_with ((apply load_by rfl _ _ rfl _ rfl); (focus (with_reducible assumption)))
  have hin := in_yes c.vip c.pre (N : Int) W4 HO.out hop (by omega) (by omega)
  rw [Int.toNat_natCast] at hin
  refine hin.mono ?_
  rintro e W5 ⟨rfl, q5⟩
  replace E1 := E1.trans q5
  cases hin2 : Pl.inB c.vip c.pre N
  case true =>
    have HE := Lib.hid (show c.err 0 = 2 by rw [H1.out, if_pos hin2])
    clear la lb hN hin2 c8 c17 c18 c19 c20 c22
    go_wp2_with fail
    go_returns
    exact ⟨by rw [HE.out]; rfl, E1⟩
  case false =>
    have HE := Lib.hid (show c.err 0 = 0 by rw [H1.out, if_neg (by rw [hin2]; exact Bool.false_ne_true)])
    clear la lb hN hin2 c8 c17 c18 c19 c20 c22
    go_wp2_with fail
    go_returns
    exact ⟨by rw [HE.out]; rfl, E1⟩
end Go.Proofs.YtbjogkpepfgegaaGreatDoor
