/- The document's answers on servers: BacksFault. Conditions: as each theorem states them. -/
import Derived.Test.YtefdhlmljocnkaaDoorRefB
import Derived.Test.YtefdhlmljocnkaaDoorPick
import Derived.Test.YtefdhlmljocnkaaDoorErv
namespace Go.Proofs.YtefdhlmljocnkaaDoor
open Go.RowKit
namespace Pl
/-- What is wrong with servers: the place told and the fault. -/
def PF (bs : List Back) (i q : Int) : Prop := if 8 < bs.length then i = 0 ∧ q = 3 else ∃ k : Nat, (∀ j, j < k → Fine bs j) ∧
  ((k = bs.length ∧ i = 0 ∧ q = 0) ∨ (k < bs.length ∧ ¬ (bs.getD k back0).Num ∧ i = k ∧ q = 1) ∨
    (k < bs.length ∧ (bs.getD k back0).Num ∧ (∃ m, m < k ∧ (bs.getD m back0).id = (bs.getD k back0).id) ∧ i = k ∧ q = 8))
theorem PF.one {bs : List Back} {i q i' q' : Int} (h : PF bs i q) (h' : PF bs i' q') : i = i' ∧ q = q' := by
  unfold PF at h h'
  split at h
  · rw [if_pos ‹_›] at h'
    exact ⟨h.1.trans h'.1.symm, h.2.trans h'.2.symm⟩
  · rw [if_neg ‹_›] at h'
    obtain ⟨k, hk, hc⟩ := h
    obtain ⟨k', hk', hc'⟩ := h'
    have bad : ∀ j, ¬ Fine bs j → (∀ m, m < j → Fine bs m) → ∀ j', (∀ m, m < j' → Fine bs m) → j' ≤ j := fun j hj _ j' hj' => by
      rcases Nat.lt_or_ge j j' with h | h
      · exact absurd (hj' j h) hj
      · exact h
    rcases hc with ⟨h1, h2, h3⟩ | ⟨h1, h2, h3, h4⟩ | ⟨h1, h2, ⟨m, hm, he⟩, h3, h4⟩
    · have hno : ¬ k' < k := fun hh => by
        have := hk k' hh
        rcases hc' with ⟨g1, _⟩ | ⟨g1, g2, _⟩ | ⟨g1, g2, ⟨m, hm, he⟩, _⟩
        · omega
        · exact g2 this.1
        · exact this.2 m hm he
      rcases hc' with ⟨g1, g2, g3⟩ | ⟨g1, _⟩ | ⟨g1, _⟩
      · exact ⟨h2.trans g2.symm, h3.trans g3.symm⟩
      · omega
      · omega
    · have nf : ¬ Fine bs k := fun hf => h2 hf.1
      have hle := bad k nf hk k' hk'
      rcases hc' with ⟨g1, g2, g3⟩ | ⟨g1, g2, g3, g4⟩ | ⟨g1, g2, ⟨m, hm, he⟩, g3, g4⟩
      · omega
      · have := bad k' (fun hf => g2 hf.1) hk' k hk
        obtain rfl : k = k' := by omega
        exact ⟨h3.trans g3.symm, h4.trans g4.symm⟩
      · have := bad k' (fun hf => hf.2 m hm he) hk' k hk
        obtain rfl : k = k' := by omega
        exact absurd g2 h2
    · have nf : ¬ Fine bs k := fun hf => hf.2 m hm he
      have hle := bad k nf hk k' hk'
      rcases hc' with ⟨g1, g2, g3⟩ | ⟨g1, g2, g3, g4⟩ | ⟨g1, g2, ⟨m', hm', he'⟩, g3, g4⟩
      · omega
      · have := bad k' (fun hf => g2 hf.1) hk' k hk
        obtain rfl : k = k' := by omega
        exact absurd h2 g2
      · have := bad k' (fun hf => hf.2 m' hm' he') hk' k hk
        obtain rfl : k = k' := by omega
        exact ⟨h3.trans g3.symm, h4.trans g4.symm⟩
theorem PF.ok {bs : List Back} {i q : Int} (h : PF bs i q) (hq : q = 0) : OkBacks bs := by
  subst hq
  unfold PF at h
  split at h
  · exact absurd h.2 (by decide)
  · obtain ⟨k, hk, hc⟩ := h
    rcases hc with ⟨h1, _⟩ | ⟨_, _, _, h⟩ | ⟨_, _, _, _, h⟩
    · exact ⟨by omega, fun j hj => hk j (by omega)⟩
    · cases h
    · cases h
theorem PF.bad {bs : List Back} {i q : Int} (h : PF bs i q) (hq : q ≠ 0) : ¬ OkBacks bs := fun ho => by
  unfold PF at h
  split at h
  · have := ho.1; omega
  · obtain ⟨k, hk, hc⟩ := h
    rcases hc with ⟨_, _, h⟩ | ⟨h1, h2, _⟩ | ⟨h1, _, ⟨m, hm, he⟩, _⟩
    · exact hq h
    · exact h2 (ho.2 k h1).1
    · exact (ho.2 k h1).2 m hm he
end Pl
theorem pcheck_all (a : Option Addr) (n c : Nat) (bs : List Pl.Back) (w : World) (hb : Backs w a n bs) (hnc : n ≤ c) :
    Calls Tryd.prog 45 #[.slice a n c] w fun e w' => (∃ i q : Int, Pl.PF bs i q ∧ e = .returned (.tuple #[.int .i64 i, erv q])) ∧ Ext w w' := by
  by_cases h8 : n ≤ 8
  · refine (pcheck_any a n c bs w hb h8 hnc).mono fun e w' ⟨⟨i, hi, hc⟩, hE⟩ => ⟨?_, hE⟩
    have hl : ¬ 8 < bs.length := by rw [hb.1]; omega
    rcases hc with ⟨h0, he⟩ | ⟨h1, h2, he⟩ | ⟨h1, h2, h3, he⟩
    · exact ⟨0, 0, by unfold Pl.PF; rw [if_neg hl]; exact ⟨i, hi, .inl ⟨h0, rfl, rfl⟩⟩, he⟩
    · exact ⟨i, 1, by unfold Pl.PF; rw [if_neg hl]; exact ⟨i, hi, .inr (.inl ⟨h1, h2, rfl, rfl⟩)⟩, he⟩
    · exact ⟨i, 8, by unfold Pl.PF; rw [if_neg hl]; exact ⟨i, hi, .inr (.inr ⟨h1, h2, h3, rfl, rfl⟩)⟩, he⟩
  · refine (pcheck_full a n c w (by omega)).mono fun e w' ⟨he, hE⟩ => ⟨⟨0, 3, ?_, he⟩, hE⟩
    unfold Pl.PF
    rw [if_pos (by rw [hb.1]; omega)]
    exact ⟨rfl, rfl⟩
/-- May a server's numbers be. -/
def bN (b : Pl.Back) : Bool := w16 b.id && w16 b.door && w32 b.addr && decide (0 ≤ b.weight) && decide (b.weight ≤ 10)
theorem bN_iff {b : Pl.Back} : bN b = true ↔ b.Num := by
  unfold bN Pl.Back.Num w32
  simp only [Bool.and_eq_true, decide_eq_true_eq, w16_iff]
  constructor
  · rintro ⟨⟨⟨⟨h1, h2⟩, h3⟩, h4⟩, h5⟩
    exact ⟨h1, h2, ⟨h3.1, by omega⟩, h4, h5⟩
  · rintro ⟨h1, h2, h3, h4, h5⟩
    exact ⟨⟨⟨⟨h1, h2⟩, h3.1, by omega⟩, h4⟩, h5⟩
set_option maxRecDepth 100000 in
set_option maxHeartbeats 8000000 in
theorem rbacks_any (a : Option Addr) (n c : Nat) (bs : List Pl.Back) (w : World) (hb : Backs w a n bs) :
    Calls Tryd.prog 39 #[.slice a n c] w fun e w' => (∃ i q : Int, Pl.PF bs i q ∧ e = .returned (.tuple #[.int .i64 i, .int .i64 q])) ∧ Ext w w' := by
  have HB := Lib.hid hb
  have HL := Lib.hid hb.1
  clear hb
  go_enter Tryd.func39, Tryd.ntmps39
  by_cases h8 : n ≤ 8
  case neg =>
    have h8' : (8 : Int) < (n : Int) := by omega
    go_wp2_with fail
    go_ret2
    refine ⟨⟨0, 3, ?_, rfl⟩, Ext.refl _⟩
    unfold Pl.PF
    rw [if_pos (by rw [HL.out]; omega)]
    exact ⟨rfl, rfl⟩
  have h8' : ¬ (8 : Int) < (n : Int) := by omega
  have HP := Lib.hid (show ∀ i q : Int, Pl.PF bs i q ↔ ∃ k : Nat, (∀ j, j < k → Pl.Fine bs j) ∧
  ((k = bs.length ∧ i = 0 ∧ q = 0) ∨ (k < bs.length ∧ ¬ (bs.getD k Pl.back0).Num ∧ i = k ∧ q = 1) ∨
    (k < bs.length ∧ (bs.getD k Pl.back0).Num ∧ (∃ m, m < k ∧ (bs.getD m Pl.back0).id = (bs.getD k Pl.back0).id) ∧ i = k ∧ q = 8)) from fun i q => by unfold Pl.PF; rw [if_neg (by rw [HL.out]; omega)])
  go_wp2_with fail
  go_loopw [4] (fun i wr => ∃ k : Nat, k ≤ n ∧ i = .int .i64 k ∧ Ext w wr ∧ ∀ j, j < k → Pl.Fine bs j) (fun i _ => n - (intOf i).toNat)
  case atStart => exact ⟨0, Nat.zero_le _, rfl, Ext.refl _, fun j hj => absurd hj (Nat.not_lt_zero _)⟩
  case round =>
    obtain ⟨k, hk, rfl, hE, hF⟩ := hrel
    have HF := Lib.hid hF
    clear hF
    by_cases hlt : k < n
    case neg =>
      obtain rfl : n = k := by omega
      go_wp2_with fail
      go_ret2
      exact ⟨⟨0, 0, (HP.out _ _).2 ⟨_, HF.out, .inl ⟨HL.out.symm, rfl, rfl⟩⟩, rfl⟩, hE⟩
    case pos =>
      have hkl : (k : Int) < (n : Int) := by omega
      obtain ⟨b, off, rfl, hbl, hc⟩ := HB.out.at hE (by omega)
      obtain ⟨c0, c1, c2, c3, c4, c5⟩ := hc k hlt
      have HC := Lib.hid hc
      generalize hx : bs.getD k Pl.back0 = x at *
      have HX := Lib.hid hx
      clear hc hx
      obtain ⟨p, hp⟩ : ∃ p, w16 x.id = p := ⟨_, rfl⟩
      obtain ⟨d, hd⟩ : ∃ d, w16 x.door = d := ⟨_, rfl⟩
      obtain ⟨f, hf⟩ : ∃ f, w32 x.addr = f := ⟨_, rfl⟩
      have HN := Lib.hid (show x.Num ↔ (p && d && f && decide (0 ≤ x.weight) && decide (x.weight ≤ 10)) = true by rw [← hp, ← hd, ← hf]; exact bN_iff.symm)
      have HPP := Lib.hid hp
      have HDD := Lib.hid hd
      have HFF := Lib.hid hf
      clear hp hd hf
      go_wp2_with fail
      refine (word_any _ wr).mono ?_
      rintro e' w' ⟨rfl, rfl⟩
      rw [HPP.out]
      go_wp2_with fail
      refine (word_any _ wr).mono ?_
      rintro e' w' ⟨rfl, rfl⟩
      rw [HDD.out]
      go_wp2_with fail
      refine (isFour_any _ wr).mono ?_
      rintro e' w' ⟨rfl, rfl⟩
      rw [HFF.out]
      have hbad : ¬ x.Num → Pl.PF bs k 1 := fun hn => (HP.out _ _).2 ⟨k, HF.out, .inr (.inl ⟨by rw [HL.out]; exact hlt, by rw [HX.out]; exact hn, rfl, rfl⟩)⟩
      have HBAD := Lib.hid hbad
      clear hbad
      cases p
      case false =>
        go_wp2_with fail
        go_ret2
        exact ⟨⟨k, 1, HBAD.out (fun h => by have := HN.out.1 h; simp at this), rfl⟩, hE⟩
      cases d
      case false =>
        go_wp2_with fail
        go_ret2
        exact ⟨⟨k, 1, HBAD.out (fun h => by have := HN.out.1 h; simp at this), rfl⟩, hE⟩
      cases f
      case false =>
        go_wp2_with fail
        go_ret2
        exact ⟨⟨k, 1, HBAD.out (fun h => by have := HN.out.1 h; simp at this), rfl⟩, hE⟩
      by_cases h1 : 0 ≤ x.weight
      case neg =>
        have h1' : x.weight < 0 := by omega
        go_wp2_with fail
        go_ret2
        exact ⟨⟨k, 1, HBAD.out (fun h => by have := HN.out.1 h; simp at this; omega), rfl⟩, hE⟩
      have h1' : ¬ x.weight < 0 := by omega
      by_cases h2 : x.weight ≤ 10
      case neg =>
        have h2' : 10 < x.weight := by omega
        go_wp2_with fail
        go_ret2
        exact ⟨⟨k, 1, HBAD.out (fun h => by have := HN.out.1 h; simp at this; omega), rfl⟩, hE⟩
      have h2' : ¬ 10 < x.weight := by omega
      have HNUM := Lib.hid (HN.out.2 (by simp; omega))
      go_wp2_with fail
      have HEx := Lib.hid hE
      obtain ⟨wo, rfl⟩ : ∃ wo : World, wo = wr := ⟨_, rfl⟩
      clear hE c0 c1 c2 c3 c4 c5
      go_loopw [8] (fun i wi => ∃ m : Nat, m ≤ k ∧ i = .int .i64 m ∧ Ext wo wi ∧ ∀ j, j < m → (bs.getD j Pl.back0).id ≠ x.id) (fun i _ => k - (intOf i).toNat)
      case atStart => exact ⟨0, Nat.zero_le _, rfl, Ext.refl _, fun j hj => absurd hj (Nat.not_lt_zero _)⟩
      case round =>
        obtain ⟨m, hm, rfl, hEi, hFi⟩ := hrel
        have EE := HEx.out.trans hEi
        have HFi := Lib.hid hFi
        clear hFi
        by_cases hmk : m < k
        case neg =>
          obtain rfl : k = m := by omega
          go_wp2_with fail
          go_roundw
          case rel => exact ⟨k + 1, by omega, by go_num, EE, fun j hj => by
            rcases Nat.lt_succ_iff_lt_or_eq.1 hj with h | rfl
            · exact HF.out j h
            · exact ⟨by rw [HX.out]; exact HNUM.out, fun m hm => by rw [HX.out]; exact HFi.out m hm⟩⟩
          case measure => simp [intOf] <;> omega
        case pos =>
          have hmkl : (m : Int) < (k : Int) := by omega
          have hml : (m : Int) < (n : Int) := by omega
          obtain ⟨d0, -⟩ := HC.out m (by omega)
          obtain ⟨x0, -⟩ := HC.out k hlt
          rw [HX.out] at x0
          have q : ∀ o, wr.cell? ⟨b, o, none⟩ = wo.cell? ⟨b, o, none⟩ := fun o => Below.cell hEi (p := ⟨b, o, none⟩) (by have := HEx.out.size; show b < _; omega)
          replace d0 := (q _).trans d0
          replace x0 := (q _).trans x0
          clear q
          generalize hy : bs.getD m Pl.back0 = y at *
          have HY := Lib.hid hy
          clear hy
          by_cases hid : y.id = x.id
          · have hb : (y.id == x.id) = true := by simpa using hid
            have HI := Lib.hid hid
            clear hid
            go_wp2_with fail
            go_quiet (fail)
            go_wp2_with fail
            go_ret2
            exact ⟨⟨k, 8, (HP.out _ _).2 ⟨k, HF.out, .inr (.inr ⟨by rw [HL.out]; exact hlt, by rw [HX.out]; exact HNUM.out, ⟨m, hmk, by rw [HX.out, HY.out]; exact HI.out⟩, rfl, rfl⟩)⟩, rfl⟩, EE.drewN _⟩
          · have hb : (y.id == x.id) = false := by simpa using hid
            have HI := Lib.hid hid
            clear hid
            go_wp2_with fail
            go_quiet (fail)
            go_wp2_with fail
            go_roundw
            case rel => exact ⟨m + 1, by omega, by go_num, hEi.drewN _, fun j hj => by
              rcases Nat.lt_succ_iff_lt_or_eq.1 hj with h | rfl
              · exact HFi.out j h
              · rw [HY.out]; exact HI.out⟩
            case measure => simp [intOf] <;> omega
end Go.Proofs.YtefdhlmljocnkaaDoor
