/- The document's answers on flows and servers: FlowFault, ScoreOf. Conditions: as each theorem states them. -/
import Derived.Test.YtefdhlmljocnkaaDoorRef2
import Derived.Test.YtefdhlmljocnkaaDoorScore
import Derived.Test.YtefdhlmljocnkaaDoorRowI
namespace Go.Proofs.YtefdhlmljocnkaaDoor
open Go.RowKit
/-- May a flow be, as the document asks. -/
def okF (f : Flow) : Bool := (decide (f.kind = 6) || decide (f.kind = 17)) && words f.client.l && words f.dst.l && w16 f.port && w16 f.door
theorem w16_iff {n : Int} : w16 n = true ↔ 0 ≤ n ∧ n ≤ 65535 := by unfold w16; simp
theorem okF_iff {f : Flow} : okF f = true ↔ f.Ok := by
  unfold okF Flow.Ok Six.Ok
  simp only [Bool.and_eq_true, Bool.or_eq_true, decide_eq_true_eq, w16_iff]
  constructor
  · rintro ⟨⟨⟨⟨h1, h2⟩, h3⟩, h4⟩, h5⟩
    exact ⟨h1, h2, h3, h4, h5⟩
  · rintro ⟨h1, h2, h3, h4, h5⟩
    exact ⟨⟨⟨⟨h1, h2⟩, h3⟩, h4⟩, h5⟩
/-- The fault of a flow. -/
def flowE (f : Flow) : Int := if okF f = true then 0 else 1
set_option maxHeartbeats 1600000 in
theorem rflow_any (f : Flow) (w : World) : Calls Tryd.prog 15 #[f.v] w fun e w' => e = .returned (.int .i64 (flowE f)) ∧ Ext w w' := by
  have K0 := Blk.new w 47 f.cells
  have l0c := K0.fclient
  have l0d := K0.fdst
  obtain ⟨n00, n09, n018⟩ := K0.fnums
  have E0 : Ext w (w.alloc (.cells f.cells 47)) := (Ext.refl w).alloc _
  obtain ⟨p, hp⟩ : ∃ p, w16 f.port = p := ⟨_, rfl⟩
  obtain ⟨d, hd⟩ : ∃ d, w16 f.door = d := ⟨_, rfl⟩
  have HR := Lib.hid (show flowE f = if ((decide (f.kind = 6) || decide (f.kind = 17)) && words f.client.l && words f.dst.l && p && d) = true then 0 else 1 by unfold flowE okF; rw [hp, hd])
  have hc1 := fun W => sixFault_any f.client W
  have hc2 := fun W => sixFault_any f.dst W
  unfold sixE at hc1 hc2
  obtain ⟨c, hc⟩ : ∃ c, words f.client.l = c := ⟨_, rfl⟩
  obtain ⟨e, he⟩ : ∃ e, words f.dst.l = e := ⟨_, rfl⟩
  have HP := Lib.hid hp
  have HD := Lib.hid hd
  rw [hc] at hc1
  rw [he] at hc2
  have HR2 := Lib.hid (show flowE f = if ((decide (f.kind = 6) || decide (f.kind = 17)) && c && e && p && d) = true then 0 else 1 by rw [HR.out, hc, he])
  have HC1 := Lib.hid hc1
  have HC2 := Lib.hid hc2
  clear hp hd hc he hc1 hc2 HR
  unfold Flow.v
  go_enter Tryd.func15, Tryd.ntmps15
  go_wp2_with fail
  refine (word_any _ _).mono ?_
  rintro e' w' ⟨rfl, rfl⟩
  rw [HP.out]
  go_wp2_with fail
  refine (word_any _ _).mono ?_
  rintro e' w' ⟨rfl, rfl⟩
  rw [HD.out]
  by_cases hk : f.kind = 6 ∨ f.kind = 17
  case neg =>
    have e6 : (f.kind != 6) = true := by simp; omega
    have e17 : (f.kind != 17) = true := by simp; omega
    have e1 : decide (f.kind = 6) = false := by simp; omega
    have e2 : decide (f.kind = 17) = false := by simp; omega
    have HZ := Lib.hid (show flowE f = 1 by rw [HR2.out, e1, e2]; rfl)
    clear hk e1 e2
    go_wp2_with fail
    go_ret
    exact ⟨by rw [HZ.out]; rfl, E0⟩
  case pos =>
    have e0 : (decide (f.kind = 6) || decide (f.kind = 17)) = true := by simpa using hk
    have HZ := Lib.hid (show flowE f = if (c && e && p && d) = true then 0 else 1 by rw [HR2.out, e0, Bool.true_and])
    clear e0
    rcases hk with hk | hk
    case' inl => have e6 : (f.kind != 6) = false := by rw [hk]; rfl
    case' inr =>
      have e6 : (f.kind != 6) = true := by rw [hk]; rfl
      have e17 : (f.kind != 17) = false := by rw [hk]; rfl
    all_goals
      clear hk
      go_wp2_with (first | ((apply load_by rfl _ _ rfl _ rfl); (focus (with_reducible assumption))) | fail)
      refine (HC1.out _).mono ?_
      rintro e' W1 ⟨rfl, q1⟩
      have k1 := K0.ext q1
      have l1d := k1.fdst
      have E1 := E0.trans q1
      clear l0c l0d n00 n09 n018
      cases c
      case false =>
        rw [if_neg (by decide)]
        go_wp2_with fail
        go_ret
        exact ⟨by rw [HZ.out]; rfl, E1⟩
      case true =>
        rw [if_pos rfl]
        go_wp2_with (first | ((apply load_by rfl _ _ rfl _ rfl); (focus (with_reducible assumption))) | fail)
        refine (HC2.out _).mono ?_
        rintro e' W2 ⟨rfl, q2⟩
        have E2 := E1.trans q2
        clear l1d
        cases e
        case false =>
          rw [if_neg (by decide)]
          go_wp2_with fail
          go_ret
          exact ⟨by rw [HZ.out]; rfl, E2⟩
        case true =>
          rw [if_pos rfl]
          cases p
          case false =>
            go_wp2_with fail
            go_ret
            exact ⟨by rw [HZ.out]; rfl, E2⟩
          case true =>
            cases d
            all_goals
              go_wp2_with fail
              go_ret
              exact ⟨by rw [HZ.out]; rfl, E2⟩
/-- The fault of a score. -/
def okSc (seed : Int) (f : Flow) (id : Int) : Bool := decide (0 ≤ seed) && decide (seed ≤ 2147483647) && w16 id && okF f
theorem okSc_iff {seed : Int} {f : Flow} {id : Int} : okSc seed f id = true ↔ (0 ≤ seed ∧ seed < 2147483648) ∧ (0 ≤ id ∧ id ≤ 65535) ∧ f.Ok := by
  unfold okSc
  simp only [Bool.and_eq_true, decide_eq_true_eq, w16_iff, okF_iff]
  constructor
  · rintro ⟨⟨⟨h1, h2⟩, h3⟩, h4⟩; exact ⟨⟨h1, by omega⟩, h3, h4⟩
  · rintro ⟨⟨h1, h2⟩, h3, h4⟩; exact ⟨⟨⟨h1, by omega⟩, h3⟩, h4⟩
end Go.Proofs.YtefdhlmljocnkaaDoor
