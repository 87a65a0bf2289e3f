/- Lemmas of this seat, bound together: FrameD FullP FullG TabX TabY TabN Gtick. Conditions: as each lemma states them. -/
import Derived.Test.YtbjogkpepfgegaaGreatDoorK00
import Derived.Test.YtbjogkpepfgegaaGreatDoorK14
import Derived.ChangeSame
import Derived.ChangeVars
import Derived.JoinedOf
import Derived.LaidLaws
import Derived.LaidHandle
import Derived.Stop.Joined
import Derived.Test.YtbjogkpepfgegaaGreatDoorK36
import Derived.Test.YtbjogkpepfgegaaGreatDoorK43
import Derived.Test.YtbjogkpepfgegaaGreatDoorK48
import Derived.Test.YtbjogkpepfgegaaGreatDoorK44
import Derived.Test.YtbjogkpepfgegaaGreatDoorK35
import Derived.Test.YtbjogkpepfgegaaGreatDoorK40
namespace Go.Proofs.YtbjogkpepfgegaaGreatDoor
open Go.ChangeShapes Go.WideShapes Go.ChangeAt Go.RowKit

def laid : List (String × DataW Unit) := [("errors.errorType", Rows.laid_errors_errorType)]
theorem Tryz.et : Tryz.prog.globalNamed "errors.errorType" = some 0 := by kernel_rfl
theorem Tryz.rt : (Tryz.prog.cutTypes.find? (·.1 == "internal/reflectlite.rtype")).map (·.2) = some 199 := by kernel_rfl
theorem Tryz.oneRow : ((List.range 260).filter fun t => Tryz.prog.rowNamed t [101, 114, 114, 111, 114]) = [30] := by kernel_rfl
theorem Tryz.sizeTypes : Tryz.prog.types.size = 260 := by kernel_rfl

theorem handle_of_laid {W : World} (h : laidMetH Tryz.prog laid W) : Handle W := by
  have h' : laidMet Tryz.prog [] W ∧ handlesMet Tryz.prog laid W := h
  obtain ⟨name, u, ty, e1, e2, e3, e4, e5⟩ := h'.2 _ (List.mem_singleton.2 rfl)
  have en : name = [101, 114, 114, 111, 114] := (Option.some.inj e1).symm
  subst en
  obtain rfl := Option.some.inj (Tryz.rt.symm.trans e2)
  have hm : ty ∈ (List.range 260).filter fun t => Tryz.prog.rowNamed t [101, 114, 114, 111, 114] := List.mem_filter.2 ⟨List.mem_range.2 (by rw [← Tryz.sizeTypes]; exact e3), e4⟩
  rw [Tryz.oneRow] at hm
  obtain rfl := List.mem_singleton.1 hm
  have hh : typeHandle Tryz.prog 30 = .pointer (some ⟨2, 30, none⟩) := by kernel_rfl
  rw [hh] at e5
  have := World.var?_cell Tryz.et e5 0
  unfold Handle
  simpa using this

/-- A world that meets the condition: the settled one, the variable's cell laid. -/
noncomputable def laidWorld (os : Os) : World :=
  let w0 := World.holding Tryz.prog os ⟨#[], #[], []⟩
  { w0 with heap := w0.heap.modify 0 fun
      | .cells _ t frozen => .cells #[.iface 199 (.agg #[.pointer (some ⟨2, 30, none⟩)])] t frozen
      | o => o }
theorem laidWorld_met (os : Os) (args : Array Value) : laidMetH Tryz.prog laid ((laidWorld os).forCall (fun _ _ => 0) ⟨#[], args, []⟩).memory :=
  laidMetH_of_parts (laidMet_nil _ _) (by kernel_rfl)
theorem vars_nil {H : Type} {enc : TypeId × Value → H} {W : World} {gs : List (DataW H)} {q : List MemPlace} (hV : DataW.TrodVars enc Tryz.prog W (fun _ => true) [] gs q) : gs = [] ∧ q = [] := by
  cases gs with
  | nil => exact ⟨rfl, hV⟩
  | cons g r => exact absurd hV (by intro h; cases h)
end Go.Proofs.YtbjogkpepfgegaaGreatDoor
namespace Go.Proofs.YtbjogkpepfgegaaGreatDoor
open Go.RowKit
/-- Of the first i clients each has p ports, the next one has k; each has d blocks: is the o-th port of block b taken? -/
def GoneB (d p i k b o : Nat) : Prop := (b / d < i ∧ 8 * (b % d) + o < p) ∨ (b / d = i ∧ 8 * (b % d) + o < k)
structure Come (s : PS) (cl : Nat → Six) (d p i k : Nat) : Prop where
  tk : ∀ b o, b < s.n → o < 8 → (s.tk (8 * b + o) = true ↔ GoneB d p i k b o)
  own : ∀ b o, b < s.n → o < 8 → GoneB d p i k b o → s.own b = cl (b / d)
theorem Come.start {s : PS} (cl : Nat → Six) (d p : Nat) (h : ∀ j, j < 8 * s.n → s.tk j = false) : Come s cl d p 0 0 := by
  have hno : ∀ b o, ¬ GoneB d p 0 0 b o := fun b o hg => hg.elim (fun h => Nat.not_lt_zero _ h.1) fun h => Nat.not_lt_zero _ h.2
  exact ⟨fun b o hb ho => ⟨fun ht => (by rw [h _ (by omega)] at ht; cases ht), fun hg => absurd hg (hno b o)⟩, fun b o _ _ hg => absurd hg (hno b o)⟩
theorem goneB_next (d p i b o : Nat) : GoneB d p i p b o ↔ GoneB d p (i + 1) 0 b o := by unfold GoneB; omega
theorem Come.next {s : PS} {cl : Nat → Six} {d p i : Nat} (h : Come s cl d p i p) : Come s cl d p (i + 1) 0 :=
  ⟨fun b o hb ho => (h.tk b o hb ho).trans (goneB_next d p i b o), fun b o hb ho hg => h.own b o hb ho ((goneB_next d p i b o).2 hg)⟩
theorem come_at {d i k : Nat} (hk : k / 8 < d) : (d * i + k / 8) / d = i ∧ (d * i + k / 8) % d = k / 8 := by
  constructor
  · rw [Nat.mul_add_div (by omega), Nat.div_eq_of_lt hk, Nat.add_zero]
  · rw [Nat.mul_add_mod, Nat.mod_eq_of_lt hk]
theorem come_low {d i k b : Nat} (hk : k / 8 < d) (hb : b < d * i + k / 8) : b / d < i ∨ (b / d = i ∧ b % d < k / 8) := by
  have h1 : b / d ≤ i := by
    have := Nat.div_le_div_right (c := d) (Nat.le_of_lt hb)
    rw [(come_at hk).1] at this
    exact this
  have h2 := Nat.div_add_mod b d
  by_cases he : b / d = i
  · rw [he] at h2
    exact .inr ⟨he, by omega⟩
  · exact .inl (by omega)
theorem come_high {d i k b : Nat} (hk : k / 8 < d) (hb : d * i + k / 8 < b) : i < b / d ∨ (b / d = i ∧ k / 8 < b % d) := by
  have h1 : i ≤ b / d := by
    have := Nat.div_le_div_right (c := d) (Nat.le_of_lt hb)
    rw [(come_at hk).1] at this
    exact this
  have h2 := Nat.div_add_mod b d
  by_cases he : b / d = i
  · rw [he] at h2
    exact .inr ⟨he, by omega⟩
  · exact .inl (by omega)
theorem come_step {d p i k b o : Nat} (hk : k / 8 < d) (ho : o < 8) : GoneB d p i (k + 1) b o ↔ GoneB d p i k b o ∨ (b = d * i + k / 8 ∧ o = k % 8) := by
  obtain ⟨h1, h2⟩ := come_at (i := i) hk
  have h3 := Nat.div_add_mod b d
  unfold GoneB
  constructor
  · rintro (h | ⟨h, h'⟩)
    · exact .inl (.inl h)
    · by_cases he : 8 * (b % d) + o < k
      · exact .inl (.inr ⟨h, he⟩)
      · rw [h] at h3
        exact .inr ⟨by omega, by omega⟩
  · rintro ((h | h) | ⟨h, h'⟩)
    · exact .inl h
    · exact .inr ⟨h.1, by omega⟩
    · subst h
      rw [h1, h2]
      exact .inr ⟨rfl, by omega⟩
section
variable {s : PS} {cl : Nat → Six} {d p i k N : Nat}
theorem Come.fit (hN : d * N ≤ s.n) (hi : i < N) (hk : k / 8 < d) : d * i + k / 8 < s.n := by
  have : d * (i + 1) ≤ d * N := Nat.mul_le_mul_left d hi
  rw [Nat.mul_add, Nat.mul_one] at this
  omega
theorem Come.before (h : Come s cl d p i k) (hd : 8 * (d - 1) < p) (h0 : 1 ≤ d) (hk : k / 8 < d) (hinj : ∀ j, j < i → cl j ≠ cl i) {b : Nat} (hbn : b < s.n) (hb : b < d * i + k / 8) : s.mine (cl i) b = false ∧ s.fresh b = false := by
  have hm : b % d < d := Nat.mod_lt _ (by omega)
  have hlow := come_low hk hb
  have ht0 : s.tk (8 * b + 0) = true := (h.tk b 0 hbn (by omega)).2 (by unfold GoneB; omega)
  have hpos : 0 < s.many b := Pl.cnt_pos (t := s.tk) (a := 8 * b) (m := 8) (j := 0) (by omega) ht0
  refine ⟨?_, by unfold PS.fresh; simp; omega⟩
  unfold PS.mine
  rcases hlow with hq | ⟨hq, hq2⟩
  · have ho := h.own b 0 hbn (by omega) (by unfold GoneB; omega)
    have hs : sixEq (s.own b) (cl i) = false := by
      cases hs : sixEq (s.own b) (cl i) with
      | false => rfl
      | true => exact absurd (ho.symm.trans (sixEq_iff.1 hs)) (hinj _ hq)
    rw [hs]
    simp
  · have hall : s.many b = 8 := Pl.cnt_all (t := s.tk) (a := 8 * b) (m := 8) fun j hj => (h.tk b j hbn hj).2 (by unfold GoneB; omega)
    rw [hall]
    simp
theorem Come.after (h : Come s cl d p i k) (hk : k / 8 < d) {b : Nat} (hbn : b < s.n) (hb : d * i + k / 8 < b) : s.mine (cl i) b = false := by
  have hhigh := come_high hk hb
  have hnone : s.many b = 0 := Pl.cnt_none (t := s.tk) (a := 8 * b) (m := 8) fun j hj => by
    cases ht : s.tk (8 * b + j) with
    | false => rfl
    | true =>
      have hg := (h.tk b j hbn hj).1 ht
      unfold GoneB at hg
      omega
  unfold PS.mine
  rw [hnone]
  rfl
theorem Come.pick (h : Come s cl d p i k) (hd : 8 * (d - 1) < p) (h0 : 1 ≤ d) (hk : k / 8 < d) (hinj : ∀ j, j < i → cl j ≠ cl i) (hN : d * N ≤ s.n) (hi : i < N) : s.pick (cl i) = d * i + k / 8 ∧ s.low (d * i + k / 8) = k % 8 := by
  have hbn := Come.fit hN hi hk
  obtain ⟨e1, e2⟩ := come_at (i := i) hk
  have hfree : s.tk (8 * (d * i + k / 8) + k % 8) = false := by
    cases ht : s.tk (8 * (d * i + k / 8) + k % 8) with
    | false => rfl
    | true =>
      have hg := (h.tk _ _ hbn (by omega)).1 ht
      unfold GoneB at hg
      rw [e1, e2] at hg
      omega
  have hin : ∀ j, j < k % 8 → s.tk (8 * (d * i + k / 8) + j) = true := fun j hj => (h.tk _ _ hbn (by omega)).2 (by
    unfold GoneB
    rw [e1, e2]
    omega)
  constructor
  · unfold PS.pick
    by_cases hz : k % 8 = 0
    · have hnone : s.many (d * i + k / 8) = 0 := Pl.cnt_none (t := s.tk) (a := 8 * (d * i + k / 8)) (m := 8) fun j hj => by
        cases ht : s.tk (8 * (d * i + k / 8) + j) with
        | false => rfl
        | true =>
          have hg := (h.tk _ _ hbn hj).1 ht
          unfold GoneB at hg
          rw [e1, e2] at hg
          omega
      have hm : Pl.first (s.mine (cl i)) s.n = s.n := Pl.first_none fun b hb => by
        rcases Nat.lt_trichotomy b (d * i + k / 8) with hlt | rfl | hgt
        · exact (h.before hd h0 hk hinj hb hlt).1
        · unfold PS.mine; rw [hnone]; rfl
        · exact h.after hk hb hgt
      rw [hm, if_neg (by omega)]
      exact Pl.first_eq hbn (by unfold PS.fresh; rw [hnone]; rfl) fun b hb => (h.before hd h0 hk hinj (by omega) hb).2
    · have hpos : 0 < s.many (d * i + k / 8) := Pl.cnt_pos (t := s.tk) (a := 8 * (d * i + k / 8)) (m := 8) (j := 0) (by omega) (hin 0 (by omega))
      have hlt8 : s.many (d * i + k / 8) < 8 := by
        have hle := Pl.cnt_le s.tk (8 * (d * i + k / 8)) 8
        have hne : s.many (d * i + k / 8) ≠ 8 := fun he => by
          have := Pl.cnt_full (t := s.tk) (a := 8 * (d * i + k / 8)) (m := 8) he (k % 8) (by omega)
          rw [hfree] at this
          cases this
        have : s.many (d * i + k / 8) ≤ 8 := hle
        omega
      have ho := h.own (d * i + k / 8) 0 hbn (by omega) (by unfold GoneB; rw [e1, e2]; omega)
      rw [e1] at ho
      have hm : Pl.first (s.mine (cl i)) s.n = d * i + k / 8 := Pl.first_eq hbn (by
        unfold PS.mine
        rw [ho, sixEq_self, decide_eq_true hpos, decide_eq_true hlt8]
        rfl) fun b hb => (h.before hd h0 hk hinj (by omega) hb).1
      rw [hm, if_pos hbn]
  · unfold PS.low
    exact Pl.first_eq (by omega) (by rw [hfree]; rfl) fun j hj => by rw [hin j hj]; rfl
/-- The next one comes. -/
theorem Come.take (h : Come s cl d p i k) (hd : 8 * (d - 1) < p) (h0 : 1 ≤ d) (hk : k / 8 < d) (hinj : ∀ j, j < i → cl j ≠ cl i) (hN : d * N ≤ s.n) (hi : i < N) (hc : okS (cl i) = true) : s.takeQ (cl i) = 0 ∧ Come (s.take (cl i)) cl d p i (k + 1) := by
  obtain ⟨h1, h2⟩ := h.pick hd h0 hk hinj hN hi
  have hbn := Come.fit hN hi hk
  obtain ⟨e1, e2⟩ := come_at (i := i) hk
  have hq : s.takeQ (cl i) = 0 := by
    unfold PS.takeQ
    rw [if_pos hc, h1, if_pos hbn]
  refine ⟨hq, ?_⟩
  unfold PS.take
  rw [if_pos hq, h1, h2]
  refine ⟨fun b o hb ho => ?_, fun b o hb ho hg => ?_⟩
  · have hb' : b < s.n := hb
    rw [come_step hk ho, ← h.tk b o hb' ho]
    show Pl.upd s.tk (8 * (d * i + k / 8) + k % 8) true (8 * b + o) = true ↔ _
    by_cases he : 8 * b + o = 8 * (d * i + k / 8) + k % 8
    · rw [he, Pl.upd_same]
      exact ⟨fun _ => .inr ⟨by omega, by omega⟩, fun _ => rfl⟩
    · rw [Pl.upd_other _ _ he]
      exact ⟨.inl, fun hh => hh.elim id fun hh => absurd (by rw [hh.1, hh.2]) he⟩
  · have hb' : b < s.n := hb
    show Pl.upd s.own (d * i + k / 8) (cl i) b = cl (b / d)
    by_cases he : b = d * i + k / 8
    · rw [he, Pl.upd_same, e1]
    · rw [Pl.upd_other _ _ he]
      rcases (come_step hk ho).1 hg with hg | hg
      · exact h.own b o hb' ho hg
      · exact absurd hg.1 he
end
end Go.Proofs.YtbjogkpepfgegaaGreatDoor
namespace Go.Proofs.YtbjogkpepfgegaaGreatDoor
open Go.RowKit
/-- The config with n blocks; the clients, their flows and segments. -/
abbrev fuC (n : Int) : Cfg := { plC with blocks := n }
def fuCl (i : Nat) : Six := ⟨3, i, 0, 0, 0, 0, 0, 0⟩
def fuF (i k : Nat) : Flow := ⟨17, fuCl i, k, sx1, 80⟩
abbrev fuSg (k : Nat) : Sg := ⟨17, k, 80, 0, 0, 0, 0⟩
theorem fuCl_ok {i : Nat} (h : i ≤ 20) : okS (fuCl i) = true := by
  unfold okS
  refine words_of fun x hx => ?_
  simp only [Six.l, fuCl, List.mem_cons, List.not_mem_nil, or_false] at hx
  omega
theorem fuCl_inj {i j : Nat} (h : fuCl i = fuCl j) : i = j := by
  have := congrArg Six.x1 h
  simp [fuCl] at this
  omega
theorem fuF_inj {i k j m : Nat} (h : fuF i k = fuF j m) : i = j ∧ k = m := by
  have h1 := fuCl_inj (congrArg Flow.client h)
  have h2 := congrArg Flow.port h
  simp [fuF] at h2
  exact ⟨h1, by omega⟩
theorem fu_sent {i k : Nat} (hi : i ≤ 20) (hk : k ≤ 20) : SentOk (fuSg k) (fuCl i) sx1 9 ([] : List Int).length :=
  ⟨⟨.inr rfl, by show 0 ≤ (k : Int) ∧ (k : Int) ≤ 65535; omega, by show 0 ≤ (80 : Int) ∧ (80 : Int) ≤ 65535; omega, by show 0 ≤ (0 : Int) ∧ (0 : Int) < 4294967296; omega, by show 0 ≤ (0 : Int) ∧ (0 : Int) < 4294967296; omega, by show 0 ≤ (0 : Int) ∧ (0 : Int) ≤ 31; omega, by show 0 ≤ (0 : Int) ∧ (0 : Int) ≤ 65535; omega, fun _ => ⟨rfl, rfl, rfl, rfl⟩, Nat.zero_le _⟩, fuCl_ok hi, by decide, by omega⟩
theorem fu_err_no {n : Int} (h : ¬ (1 ≤ n ∧ n ≤ 16)) : (fuC n).err 0 = 1 := by
  have hb : (fuC n).numB = false := by
    unfold Cfg.numB
    by_cases h1 : 1 ≤ n
    · have h2 : decide (n ≤ 16) = false := decide_eq_false (by omega)
      show (_ && (_ && (_ && (_ && decide (n ≤ 16))))) = false
      rw [h2]
      simp
    · have h2 : decide (1 ≤ n) = false := decide_eq_false h1
      show (_ && (_ && (_ && (decide (1 ≤ n) && _)))) = false
      rw [h2]
      simp
  unfold Cfg.err
  rw [if_pos (show okS (fuC n).vip = true from (by decide : okS plC.vip = true)), if_pos (show w16 (fuC n).door = true from (by decide : w16 plC.door = true)), if_pos (show Pl.pfxErr (fuC n).pre (fuC n).len = 0 from (by decide +kernel : Pl.pfxErr plC.pre plC.len = 0)), hb]
  rfl
theorem fu_err_yes {n : Int} (h : 1 ≤ n ∧ n ≤ 16) : (fuC n).err 0 = 0 := by
  have hb : (fuC n).numB = true := by
    unfold Cfg.numB
    have h1 : decide (1 ≤ n) = true := decide_eq_true h.1
    have h2 : decide (n ≤ 16) = true := decide_eq_true h.2
    show (_ && (_ && (_ && (decide (1 ≤ n) && decide (n ≤ 16))))) = true
    rw [h1, h2]
    exact (by decide : (w32 plC.near && (decide (0 ≤ plC.seed) && (decide (plC.seed < 2147483648) && (true && true)))) = true)
  unfold Cfg.err
  rw [if_pos (show okS (fuC n).vip = true from (by decide : okS plC.vip = true)), if_pos (show w16 (fuC n).door = true from (by decide : w16 plC.door = true)), if_pos (show Pl.pfxErr (fuC n).pre (fuC n).len = 0 from (by decide +kernel : Pl.pfxErr plC.pre plC.len = 0)), if_pos hb, if_pos rfl]
  have h3 : Pl.inB (fuC n).vip (fuC n).pre (fuC n).len.toNat = false := by
    show Pl.inB plC.vip plC.pre plC.len.toNat = false
    decide +kernel
  rw [h3]
  rfl
theorem fu_ok {n : Int} (h : 1 ≤ n ∧ n ≤ 16) : CfgOk (fuC n) plB := CfgOk.of plPF (fu_err_yes h)
theorem fu_head (n : Int) {i k : Nat} (hi : i ≤ 20) (hk : k ≤ 20) : gHead (fuC n) (segFlow (Pl.dec6 (sent6 (fuSg k) (fuCl i) sx1 9 [])) (g6sg (sent6 (fuSg k) (fuCl i) sx1 9 []))) = false := by
  rw [sent6_dec, (fu_sent hi hk).sg]
  unfold gHead
  have : decide ((segFlow ⟨fuCl i, sx1, 9, (fuSg k).kind⟩ (fuSg k)).kind = 6) = false := decide_eq_false (by show ¬ (17 : Int) = 6; omega)
  rw [this, Bool.and_false, Bool.and_false]
/-- What comes of a new client's segment. -/
theorem fu_g6 {n : Int} {i k : Nat} (hi : i ≤ 20) (hk : k ≤ 20) {s : PS} {B : List Bd} {now : Int} (ht : okT now = true) (hf : findF (fuF i k) B = none) :
    (s.takeQ (fuCl i) = 0 ∧ (g6 (fuC n) plB s B now (sent6 (fuSg k) (fuCl i) sx1 9 [])).q = 0 ∧ (g6 (fuC n) plB s B now (sent6 (fuSg k) (fuCl i) sx1 9 [])).s = s.take (fuCl i) ∧ (g6 (fuC n) plB s B now (sent6 (fuSg k) (fuCl i) sx1 9 [])).B = insB (newBd (fuF i k) 5 8080 now s) B) ∨
    (s.takeQ (fuCl i) ≠ 0 ∧ (g6 (fuC n) plB s B now (sent6 (fuSg k) (fuCl i) sx1 9 [])).q = 3 ∧ (g6 (fuC n) plB s B now (sent6 (fuSg k) (fuCl i) sx1 9 [])).s = s ∧ (g6 (fuC n) plB s B now (sent6 (fuSg k) (fuCl i) sx1 9 [])).B = B) := by
  have h := fu_sent hi hk
  have hv : sixEq (fuF i k).dst (fuC n).vip = true := sixEq_self _
  have hb := plBest (Pl.worth (fuC n).seed (fuF i k))
  have hw : gWhQ (fuC n) (fuF i k) = 0 := by
    unfold gWhQ
    rw [if_pos hv]
    exact if_pos rfl
  have hq : gToQ (fuC n) plB (fuF i k) = 0 := by
    unfold gToQ
    rw [if_pos hv, hb]
    rfl
  have hA : gToA (fuC n) plB (fuF i k) = 5 := by
    unfold gToA
    rw [if_pos hv, hb]
    rfl
  have hD : gToD (fuC n) plB (fuF i k) = 8080 := by
    unfold gToD
    rw [if_pos hv, hb]
    rfl
  have hm : bMakeQ (fuF i k) 5 8080 now s B = s.takeQ (fuCl i) := by
    unfold bMakeQ
    have h1 : (okA 5 && (w16 8080 && okT now)) = true := by rw [ht]; decide
    rw [if_pos (show okF (fuF i k) = true from h.okF), if_pos h1, hf, if_neg (by decide)]
    rfl
  have hbind : gBind (fuC n) plB s B now (fuF i k) 0 = gMade (fuF i k) 5 8080 now s B := by
    unfold gBind
    rw [hf]
    show gNew _ _ _ _ _ _ _ = _
    unfold gNew
    rw [if_pos (show gSyn (fuF i k).kind 0 = true from (by decide : gSyn 17 0 = true)), if_pos hq, hA, hD]
  have hg : g6 (fuC n) plB s B now (sent6 (fuSg k) (fuCl i) sx1 9 []) = g6out (fuC n) ⟨fuCl i, sx1, 9, 17⟩ (fuSg k) [] (gMade (fuF i k) 5 8080 now s B) := by
    rw [g6_sent h]
    unfold g6seg
    rw [if_neg (by show ¬ (9 : Int) < 2; omega)]
    show (if gWhQ (fuC n) (fuF i k) = 0 then g6out _ _ _ _ (gBind (fuC n) plB s B now (fuF i k) 0) else _) = _
    rw [if_pos hw, hbind]
  rw [hg]
  unfold gMade
  rw [hm]
  by_cases hz : s.takeQ (fuCl i) = 0
  · rw [if_pos hz]
    exact .inl ⟨hz, rfl, rfl, rfl⟩
  · have h3 : s.takeQ (fuCl i) = 3 := by
      unfold PS.takeQ at hz ⊢
      rw [if_pos (fuCl_ok hi)] at hz ⊢
      split at hz
      · exact absurd rfl hz
      · rename_i hn
        rw [if_neg hn]
    rw [if_neg hz, h3]
    exact .inr ⟨by decide, rfl, rfl, rfl⟩
/-- The binds that there are behind the first i clients, and k flows of the next one. -/
structure FullB (s : PS) (B : List Bd) (now : Int) (N p n i k given : Nat) : Prop where
  size : s.n = n
  len : B.length = given
  all : ∀ b ∈ B, b.last = now ∧ ∃ i' k', (i' < i ∨ (i' = i ∧ k' < k)) ∧ b.flow = fuF i' k'
  fit : (p + 7) / 8 * N ≤ n → Come s fuCl ((p + 7) / 8) p i k ∧ given = i * p + k
theorem FullB.start {s : PS} (now : Int) (N p : Nat) {n : Nat} (hn : s.n = n) (h : Inv s []) : FullB s [] now N p n 0 0 0 :=
  ⟨hn, rfl, fun _ hb => (by cases hb), fun _ => ⟨Come.start fuCl _ p fun j hj => by
    have := h.pa.many
    have h0 := Pl.cnt_zero (t := s.tk) (a := 0) (m := 8 * s.n) this j hj
    rwa [Nat.zero_add] at h0, by simp⟩⟩
theorem FullB.client {s : PS} {B : List Bd} {now : Int} {N p n i given : Nat} (h : FullB s B now N p n i p given) : FullB s B now N p n (i + 1) 0 given :=
  ⟨h.size, h.len, fun b hb => by
    obtain ⟨h1, i', k', h2, h3⟩ := h.all b hb
    exact ⟨h1, i', k', .inl (by omega), h3⟩, fun hf => by
    obtain ⟨h1, h2⟩ := h.fit hf
    refine ⟨h1.next, ?_⟩
    rw [h2, Nat.succ_mul, Nat.add_zero]⟩
theorem FullB.new {s : PS} {B : List Bd} {now : Int} {N p n i k given : Nat} (h : FullB s B now N p n i k given) : findF (fuF i k) B = none := by
  cases hf : findF (fuF i k) B with
  | none => rfl
  | some b =>
    obtain ⟨hb, he⟩ := findF_some hf
    obtain ⟨_, i', k', h2, h3⟩ := h.all b hb
    rw [h3] at he
    obtain ⟨rfl, rfl⟩ := fuF_inj he
    omega
theorem FullB.took {s : PS} {B : List Bd} {now : Int} {N p n i k given : Nat} (h : FullB s B now N p n i k given) (hk : k < p) (hi : i < N) (hN : N ≤ 20) (hq : s.takeQ (fuCl i) = 0) : FullB (s.take (fuCl i)) (insB (newBd (fuF i k) 5 8080 now s) B) now N p n i (k + 1) (given + 1) := by
  refine ⟨?_, ?_, fun b hb => ?_, fun hf => ?_⟩
  · rw [← h.size]
    unfold PS.take
    rw [if_pos hq]
    rfl
  · rw [(insB_perm _ _).length_eq, List.length_cons, h.len]
  · rcases List.mem_cons.1 ((insB_perm _ _).mem_iff.1 hb) with rfl | hb
    · exact ⟨rfl, i, k, .inr ⟨rfl, by omega⟩, rfl⟩
    · obtain ⟨h1, i', k', h2, h3⟩ := h.all b hb
      exact ⟨h1, i', k', by omega, h3⟩
  · obtain ⟨h1, h2⟩ := h.fit hf
    refine ⟨(h1.take (N := N) (by omega) (by omega) (by omega) (fun j hj he => by have := fuCl_inj he; omega) (by rw [h.size]; exact hf) hi (fuCl_ok (by omega))).2, by rw [h2]; omega⟩
theorem FullB.none {s : PS} {B : List Bd} {now : Int} {N p n i k given : Nat} (h : FullB s B now N p n i k given) (hk : k < p) (hi : i < N) (hN : N ≤ 20) (hq : s.takeQ (fuCl i) ≠ 0) : FullB s B now N p n i (k + 1) given :=
  ⟨h.size, h.len, fun b hb => by
    obtain ⟨h1, i', k', h2, h3⟩ := h.all b hb
    exact ⟨h1, i', k', by omega, h3⟩, fun hf => absurd ((h.fit hf).1.take (N := N) (by omega) (by omega) (by omega) (fun j hj he => by have := fuCl_inj he; omega) (by rw [h.size]; exact hf) hi (fuCl_ok (by omega))).1 hq⟩
theorem FullB.few {s : PS} {B : List Bd} {now : Int} {N p n i k given : Nat} (h : FullB s B now N p n i k given) (hi : Inv s B) : given ≤ 8 * n := by
  have h1 := hi.pa.many
  have h2 : s.used s.n ≤ 8 * s.n := Pl.cnt_le s.tk 0 (8 * s.n)
  rw [List.length_map, h.len] at h1
  rw [h.size] at h1 h2
  omega
theorem FullB.gone {s : PS} {B : List Bd} {now : Int} {N p n i k given : Nat} (h : FullB s B now N p n i k given) : restB (now + 30) B = [] := by
  unfold restB
  rw [List.filter_eq_nil_iff]
  intro b hb
  obtain ⟨h1, i', k', h2, h3⟩ := h.all b hb
  have hl : life b.flow.kind = 30 := by rw [h3]; rfl
  unfold past
  rw [hl, h1, decide_eq_false (by omega)]
  decide
end Go.Proofs.YtbjogkpepfgegaaGreatDoor
namespace Go.Proofs.YtbjogkpepfgegaaGreatDoor
open Go.RowKit
/-- A bind that has expired, of entries. -/
def pastT (now : Int) (x : Te) : Bool := past now x.b
/-- Binds that are gone, of those that have come. -/
def goneT (now : Int) (d : List Te) : List Bd := (d.filter (pastT now)).map Te.b
/-- In the midst of Expire: of entries l0 d have come; l are left; s the ports. -/
structure Exp (now : Int) (s0 : PS) (l0 : List Te) (d l : List Te) (s : PS) : Prop where
  vis : Vis l0 d
  left : ∀ x ∈ l, x ∈ l0 ∧ (x.sN ∈ d.map Te.sN → pastT now x = false)
  all : ∀ x ∈ l0, x ∈ l ∨ (x ∈ d ∧ pastT now x = true)
  apart : ∀ x ∈ l, ¬ (x ∈ d ∧ pastT now x = true)
  nd : (l.map Te.sN).Nodup
  nd0 : (l0.map Te.sN).Nodup
  inv : Inv0 s (l.map Te.b)
  ports : s = s0.backs (goneT now d)
theorem Exp.start {now : Int} {s : PS} {l : List Te} (hnd : (l.map Te.sN).Nodup) (h : Inv0 s (l.map Te.b)) : Exp now s l [] l s :=
  ⟨⟨fun _ h => (by cases h), List.nodup_nil⟩, fun x hx => ⟨hx, fun h => (by cases h)⟩, fun x hx => .inl hx, fun x _ h => (by cases h.1), hnd, hnd, h, (PS.backs_nil s).symm⟩
/-- An entry that stays. -/
theorem Exp.stay {now : Int} {s0 s : PS} {l0 d l : List Te} (h : Exp now s0 l0 d l s) {x : Te} (hx : x ∈ l) (hn : x.sN ∉ d.map Te.sN) (hp : pastT now x = false) : Exp now s0 l0 (d ++ [x]) l s := by
  have hx0 := (h.left x hx).1
  refine ⟨h.vis.add hx0 hn, fun y hy => ⟨(h.left y hy).1, fun hm => ?_⟩, fun y hy => ?_, fun y hy hc => ?_, h.nd, h.nd0, h.inv, ?_⟩
  · rw [List.map_append] at hm
    rcases List.mem_append.1 hm with hm | hm
    · exact (h.left y hy).2 hm
    · simp at hm
      rw [stamp_inj h.nd0 (h.left y hy).1 hx0 hm]
      exact hp
  · rcases h.all y hy with hl | ⟨h1, h2⟩
    · exact .inl hl
    · exact .inr ⟨List.mem_append_left _ h1, h2⟩
  · rcases List.mem_append.1 hc.1 with h1 | h1
    · exact h.apart y hy ⟨h1, hc.2⟩
    · simp at h1
      rw [h1, hp] at hc
      exact absurd hc.2 (by decide)
  · rw [h.ports]
    unfold goneT
    rw [List.filter_append, List.filter_cons_of_neg (by rw [hp]; decide)]
    simp
/-- An entry that goes. -/
theorem Exp.go {now : Int} {s0 s : PS} {l0 d l : List Te} (h : Exp now s0 l0 d l s) {i : Nat} {x : Te} (hi : l[i]? = some x) (hn : x.sN ∉ d.map Te.sN) (hp : pastT now x = true) :
    Exp now s0 l0 (d ++ [x]) (l.eraseIdx i) (s.back x.b.near) ∧ s.has x.b.near = true ∧ goneT now (d ++ [x]) = goneT now d ++ [x.b] := by
  have hx : x ∈ l := List.mem_of_getElem? hi
  have hx0 := (h.left x hx).1
  have hlt := (List.getElem?_eq_some_iff.1 hi).1
  have hsub : (l.eraseIdx i).Sublist l := List.eraseIdx_sublist ..
  have hnx : x ∉ l.eraseIdx i := fun hm => by
    have hnd := nodup_of_map h.nd
    rw [List.eraseIdx_eq_take_drop_succ] at hm
    have e : l = l.take i ++ x :: l.drop (i + 1) := by
      rw [← (List.getElem?_eq_some_iff.1 hi).2, List.getElem_cons_drop, List.take_append_drop]
    rw [e, List.nodup_append] at hnd
    rcases List.mem_append.1 hm with h1 | h1
    · exact hnd.2.2 x h1 x (List.mem_cons_self ..) rfl
    · exact (List.nodup_cons.1 hnd.2.1).1 h1
  have hsplit : l = l.take i ++ x :: l.drop (i + 1) := by
    rw [← (List.getElem?_eq_some_iff.1 hi).2, List.getElem_cons_drop, List.take_append_drop]
  have hg : goneT now (d ++ [x]) = goneT now d ++ [x.b] := by
    unfold goneT
    rw [List.filter_append, List.filter_cons_of_pos hp]
    simp
  have hhas : s.has x.b.near = true := h.inv.has (List.mem_map_of_mem hx)
  refine ⟨⟨h.vis.add hx0 hn, fun y hy => ⟨(h.left y (hsub.subset hy)).1, fun hm => ?_⟩, fun y hy => ?_, fun y hy hc => ?_, h.nd.sublist (hsub.map _), h.nd0, ?_, ?_⟩, hhas, hg⟩
  · rw [List.map_append] at hm
    rcases List.mem_append.1 hm with hm | hm
    · exact (h.left y (hsub.subset hy)).2 hm
    · simp at hm
      rw [stamp_inj h.nd0 (h.left y (hsub.subset hy)).1 hx0 hm] at hy
      exact absurd hy hnx
  · rcases h.all y hy with hl | ⟨h1, h2⟩
    · by_cases he : y = x
      · subst he
        exact .inr ⟨by simp, hp⟩
      · left
        rw [List.eraseIdx_eq_take_drop_succ]
        rw [hsplit] at hl
        rcases List.mem_append.1 hl with h1 | h1
        · exact List.mem_append_left _ h1
        · rcases List.mem_cons.1 h1 with h1 | h1
          · exact absurd h1 he
          · exact List.mem_append_right _ h1
    · exact .inr ⟨List.mem_append_left _ h1, h2⟩
  · rcases List.mem_append.1 hc.1 with h1 | h1
    · exact h.apart y (hsub.subset hy) ⟨h1, hc.2⟩
    · simp at h1
      rw [h1] at hy
      exact absurd hy hnx
  · have h1 := h.inv
    rw [hsplit, List.map_append, List.map_cons] at h1
    have h2 := h1.drop
    rw [List.eraseIdx_eq_take_drop_succ, List.map_append]
    exact h2
  · rw [hg, h.ports]
    rw [h.ports] at hhas
    exact PS.backs_add s0 _ _ hhas
/-- At the end. -/
theorem Exp.done {now : Int} {s0 s : PS} {l0 d l : List Te} (h : Exp now s0 l0 d l s) (ha : ∀ x ∈ l, x.sN ∈ d.map Te.sN) {B : List Bd} (hB : (l0.map Te.b).Perm B) (hi : Inv s0 B) :
    (goneT now d).Perm (outB now B) ∧ (l.map Te.b).Perm (restB now B) ∧ s = s0.backs (outB now B) ∧ Inv s (restB now B) := by
  have hd : ∀ x ∈ l, pastT now x = false := fun x hx => (h.left x hx).2 (ha x hx)
  have p1 : l.Perm (l0.filter fun x => !pastT now x) := by
    rw [List.perm_ext_iff_of_nodup (nodup_of_map h.nd) ((nodup_of_map h.nd0).sublist List.filter_sublist)]
    intro x
    rw [List.mem_filter]
    constructor
    · intro hx
      exact ⟨(h.left x hx).1, by rw [hd x hx]; rfl⟩
    · rintro ⟨hx, hp⟩
      rcases h.all x hx with hl | ⟨_, h2⟩
      · exact hl
      · rw [h2] at hp; cases hp
  have p2 : (d.filter (pastT now)).Perm (l0.filter (pastT now)) := by
    rw [List.perm_ext_iff_of_nodup ((nodup_of_map h.vis.nd).sublist List.filter_sublist) ((nodup_of_map h.nd0).sublist List.filter_sublist)]
    intro x
    rw [List.mem_filter, List.mem_filter]
    constructor
    · rintro ⟨hx, hp⟩
      exact ⟨h.vis.sub x hx, hp⟩
    · rintro ⟨hx, hp⟩
      rcases h.all x hx with hl | ⟨h1, _⟩
      · rw [hd x hl] at hp; cases hp
      · exact ⟨h1, hp⟩
  have e1 : ∀ q : Bd → Bool, (l0.filter fun x => q x.b).map Te.b = (l0.map Te.b).filter q := fun q => by
    rw [List.filter_map]; rfl
  have q1 : (l.map Te.b).Perm (restB now B) := by
    have := p1.map Te.b
    have e2 : (l0.filter fun x => !pastT now x).map Te.b = (l0.map Te.b).filter (fun b => !past now b) := e1 (fun b => !past now b)
    rw [e2] at this
    exact this.trans (hB.filter _)
  have q2 : (goneT now d).Perm (outB now B) := by
    have := p2.map Te.b
    have e2 : (l0.filter (pastT now)).map Te.b = (l0.map Te.b).filter (past now) := e1 (past now)
    rw [e2] at this
    exact this.trans (hB.filter _)
  refine ⟨q2, q1, by rw [h.ports]; exact PS.backs_perm s0 q2, h.inv.perm q1, ?_⟩
  exact hi.sorted.sublist List.filter_sublist
end Go.Proofs.YtbjogkpepfgegaaGreatDoor
namespace Go.Proofs.YtbjogkpepfgegaaGreatDoor
open Go.RowKit
section
variable {κ : Type} {K : Keys κ} {w : World} {g : Nat} {l : List (Ent κ)} {clock : Nat}
variable {ops : Array Oper} {rest : List Oper} {o : Oper} {a : Act} {Q : Exit → Act → World → Prop}
/-- delete in a walk, of a key that is there. -/
theorem at_delmap (hg : o.guard = none) (m x : Operand) (t e : TypeId) (hop : o.op = Op.call { callee := Callee.builtin Builtin.delete, args := #[m, x], argTypes := #[t, K.t] }) (h : MapIs K w g l clock) (hF : K.Finds)
    (hm : a.eval m = .map (some g)) (hu : Tryz.prog.underlying t = some (.map K.t e)) (k : κ) (u : Value) (i : Nat) (hk : K.look k l 0 = some (i, u)) (hx : a.eval x = K.f k)
    (hK : wpList Tryz.prog ops Q rest (a.put o.dst (.tuple #[])) (putMap K w g (l.eraseIdx i) clock)) : wpList Tryz.prog ops Q (o :: rest) a w := by
  refine wpList_plain hg fun K' hK' => ?_
  have hrun := h.delete hF t e o.type hu k u i hk
  unfold Oper.wp
  simp [execOp, hop, resolve, invoke, builtin, hm, hx, hrun, Result.andThen]
  exact hK' _ _ hK
end
theorem erase_inN (l : List Te) (i : Nat) : (l.map Te.inN).eraseIdx i = (l.eraseIdx i).map Te.inN := by rw [← ChangeMaps.map_eraseIdx]
theorem erase_inF (l : List Te) (i : Nat) : (l.map Te.inF).eraseIdx i = (l.eraseIdx i).map Te.inF := by rw [← ChangeMaps.map_eraseIdx]
theorem Kp.grown {S : List Nat} {a b c : World} {row : Option Nat} (h : Kp S a b) (k : b.grownBy c row) (hr : ∀ g, row = some g → a.heap.size ≤ g) : Kp S a c :=
  ⟨k.os.trans h.os, k.tape.trans h.tape, k.output.trans h.output, Nat.le_trans h.size k.size, fun i hi hn => (k.block i (Nat.lt_of_lt_of_le hi h.size) (fun e => by have := hr i e.symm; omega)).trans (h.block i hi hn)⟩
theorem Kp.ofRow {b c : World} {row : Option Nat} (k : b.grownBy c row) : Kp row.toList b c := ⟨k.os, k.tape, k.output, k.size, fun i hi hn => k.block i hi fun e => hn (by rw [← e]; simp)⟩
theorem Tab.kp {w w' : World} {gT gP gB gF gN : Nat} {s : PS} {l : List Te} {cF cN : Nat} {S : List Nat} (h : Tab w gT gP gB gF gN s l cF cN) (k : Kp S w w') (h1 : gT ∉ S) (h2 : gP ∉ S) (h3 : gB ∉ S) (h4 : gF ∉ S) (h5 : gN ∉ S) : Tab w' gT gP gB gF gN s l cF cN :=
  ⟨h.ptr.kp k h1, h.prt.kp k h2 h3, h.flows.kp k h4, h.nears.kp k h5, h.apart⟩
theorem Kin.Own.kp {α : Type} {K : Kin α} {t : TypeId} {w w' : World} {B : Nat} {v : Value} {xs : List α} {S : List Nat} (h : K.Own t w B v xs) (k : Kp S w w') (hS : ∀ g, v.ownBlock = some g → g ∉ S) : K.Own t w' B v xs := by
  have hL := h.lt
  refine ⟨h.1, ?_⟩
  rcases h.2 with hn | ⟨g, cap, cur, rfl, hg, hh, rest⟩
  · exact .inl hn
  · exact .inr ⟨g, cap, cur, rfl, hg, by rw [k.block g (hL g rfl).2 (hS g rfl)]; exact hh, rest⟩
theorem loaBdF {w : World} {R : Nat} {b : Bd} (k : Blk w R 52 b.cells) :
    (Instr.loadAt 50 (.pointer (some ⟨R, 0, none⟩))).run Tryz.prog w = .ok (.agg b.flow.cells) w := by
  have e : b.cells = b.flow.cells ++ #[.int .i64 b.near, .int .i64 b.back, .int .i64 b.far, .int .i64 b.last] := rfl
  have := run_loadAt_mid (P := Tryz.prog) w R 0 50 b.flow.cells.toList _ (fun j v hv => by
    rw [Array.getElem?_toList] at hv
    rw [k.cells, Nat.zero_add, e, Array.getElem?_append_left (Array.getElem?_eq_some_iff.1 hv).1]; exact hv) Tryz.underlying50 rfl Tryz.sizeFlow
  simpa using this
set_option maxRecDepth 100000 in
set_option maxHeartbeats 2000000 in
theorem texp_bad (gT : Nat) (now : Int) (w : World) (hn : okT now = false) :
    Calls Tryz.prog 40 #[.pointer (some ⟨gT, 0, none⟩), .int .i64 now] w fun e w' => e = .returned (.tuple #[.slice none 0 0, errv 1]) ∧ w' = w := by
  unfold okT at hn
  unfold errv
  go_enter Tryz.func40, Tryz.ntmps40
  go_wp2_with fail
  refine (btick_any now _).mono ?_
  rintro e w' ⟨rfl, rfl⟩
  rw [hn]
  go_wp2_with fail
  go_returns
  exact ⟨rfl, rfl⟩
set_option maxRecDepth 100000 in
set_option maxHeartbeats 2000000 in
theorem texp_any (gT gP gB gF gN : Nat) (s : PS) (l : List Te) (cF cN : Nat) (B : List Bd) (now : Int) (w : World) (h : Tab w gT gP gB gF gN s l cF cN) (p : (l.map Te.b).Perm B) (hnd : (l.map Te.sN).Nodup) (hi : Inv s B) (hn : okT now = true) :
    Calls Tryz.prog 40 #[.pointer (some ⟨gT, 0, none⟩), .int .i64 now] w fun e w' => ∃ v l', e = .returned (.tuple #[v, .nilIface]) ∧ KB.Own 52 w' w.heap.size v (outB now B) ∧
      Tab w' gT gP gB gF gN (s.backs (outB now B)) l' cF cN ∧ (l'.map Te.b).Perm (restB now B) ∧ (l'.map Te.sN).Nodup ∧ Inv (s.backs (outB now B)) (restB now B) ∧ Kp [gB, gF, gN] w w' := by
  have c2 : w.cell? ⟨gT, 2, none⟩ = some (.map (some gN)) := h.ptr.cells 2
  have HM := Lib.hid h
  have hNl := h.nears.lt
  have hFl := h.flows.lt
  have hTl := h.ptr.lt
  have hPl := h.prt.ptr.lt
  have hBl := h.prt.row.lt
  obtain ⟨hr1, hr2⟩ := Inv.range hi.toInv0 h.prt.n1
  have hll : l.length ≤ 128 := by have := p.length_eq; simp at this; omega
  have hS : SortsTo (outB now B) := sorts_to _ (hi.sorted.sublist List.filter_sublist) (fun b hb => hr1 b (List.mem_filter.1 hb).1) (by have := List.length_filter_le (past now) B; unfold outB; omega)
  have HE0 := Lib.hid (Exp.start (now := now) hnd (hi.toInv0.perm p.symm))
  have HP := Lib.hid (And.intro p (And.intro hi hS))
  have ht := okT_iff.1 hn
  have hN := hn
  unfold okT at hN
  have hap := h.apart
  have hTB : gT ≠ gB ∧ gT ≠ gF ∧ gT ≠ gN ∧ gP ≠ gB ∧ gP ≠ gF ∧ gP ≠ gN ∧ gB ≠ gF ∧ gB ≠ gN ∧ gF ≠ gN := by simp at hap; omega
  clear h p hnd hi hS hr1 hr2 hn
  go_enter Tryz.func40, Tryz.ntmps40
  go_wp2_with fail
  refine (btick_any now _).mono ?_
  rintro e w' ⟨rfl, rfl⟩
  rw [hN]
  go_wp2_with (first | (at_range; refine at_map rfl _ 115 52 rfl HM.out.nears rfl Tryz.underlying115 ?_; intro W0 hI0 E0 hs0))
  go_frame
  go_loopw [6] (fun v wr => ∃ (d l1 : List Te) (s1 : PS), Exp now s l d l1 s1 ∧ It wr w'.heap.size gN cN (d.map Te.sN) ∧ KB.Own 52 wr (w'.heap.size + 1) v (goneT now d) ∧ Tab wr gT gP gB gF gN s1 l1 cF cN ∧ Kp [gB, gF, gN] w' wr ∧ w'.heap.size + 1 ≤ wr.heap.size) (fun _ wr => l.length - itSeen wr w'.heap.size)
  case atStart => 
    have kk := E0.kp [gB, gF, gN]
    have t0 := HM.out
    exact ⟨[], l, s, HE0.out, hI0, Kin.Own.nil _ _, ⟨t0.ptr.ext E0, t0.prt.ext E0, t0.flows.ext E0, t0.nears.ext E0, t0.apart⟩, kk, by omega⟩
  case round =>
    clear hI0 E0 hs0 c2
    obtain ⟨d, l1, s1, hX, hI, ho, hT, hK, hs⟩ := hrel
    have hcount := hI.count
    have HV := Lib.hid (And.intro hX (And.intro ho (And.intro hT hK)))
    have MN := hT.nears
    have hl := hX.vis.len
    have hC : l.length - itSeen wr w'.heap.size = l.length - d.length := by rw [hcount]; simp
    have hold : ∀ y ∈ l1, y.sN < cN := fun y hy => MN.old y.inN (List.mem_map_of_mem hy)
    have hnd1 := hX.nd
    clear hX ho hT hK
    go_upto_region 8 with (first | ((apply store_by rfl _ _ _ rfl _ rfl); (focus (with_reducible assumption)); (focus rfl)) | (at_next; refine at_nextT rfl _ rfl rfl MN hI (by omega) hold (Nat.le_refl _) hnd1 (fun hall => ?_) (fun y w1 hy hns hI1 hk1 hen => ?_); rotate_left; have K8 := Blk.new w1 52 #[.int .i64 0, .int .i64 0, .int .i64 0, .int .i64 0, .int .i64 0, .int .i64 0, .int .i64 0, .int .i64 0, .int .i64 0, .int .i64 0, .int .i64 0, .int .i64 0, .int .i64 0, .int .i64 0, .int .i64 0, .int .i64 0, .int .i64 0, .int .i64 0, .int .i64 0, .int .i64 0, .int .i64 0, .int .i64 0, .int .i64 0]; have st := stoBd K8 y.b; rotate_right))
    · obtain ⟨q1, q2, q3, q4⟩ := HV.out.1.done hall HP.out.1 HP.out.2.1
      have ho := HV.out.2.1
      have hT := HV.out.2.2.1
      have hnd2 := hnd1
      have hK := HV.out.2.2.2
      rw [q3] at hT q4
      refine (HP.out.2.2 u6 (goneT now d) (w'.heap.size + 1) wr q1 ho).mono ?_
      rintro e W9 ⟨rfl, o9, g9⟩
      have hlo : ∀ k, u6.ownBlock = some k → w'.heap.size + 1 ≤ k := fun k hk => (ho.lt k hk).1
      have hnl : ∀ g, g < w'.heap.size → g ∉ u6.ownBlock.toList := fun g hg hm => by
        have := hlo g (by simpa using hm); omega
      have t9 := hT.kp (Kp.ofRow g9) (hnl _ hTl) (hnl _ hPl) (hnl _ hBl) (hnl _ hFl) (hnl _ hNl)
      have k9 := hK.grown g9 (fun g hg => by have := hlo g hg; omega)
      have HF := Lib.hid (And.intro o9 (And.intro t9 (And.intro k9 (And.intro q2 (And.intro hnd2 q4)))))
      clear hall ho hT hK g9 hI MN hcount hC o9 t9 k9 q1 q2 q3 q4 hnl hlo hold hnd1 hnd2 hl
      go_wp2_with fail
      go_returns
      exact ⟨_, _, rfl, HF.out.1.mono (Nat.le_succ _), HF.out.2.1, HF.out.2.2.2.1, HF.out.2.2.2.2.1, HF.out.2.2.2.2.2, HF.out.2.2.1⟩
    · have K9 := K8.row y.b.cells
      have E2 : Ext w1 _ := ((Ext.refl w1).alloc (.cells #[.int .i64 0, .int .i64 0, .int .i64 0, .int .i64 0, .int .i64 0, .int .i64 0, .int .i64 0, .int .i64 0, .int .i64 0, .int .i64 0, .int .i64 0, .int .i64 0, .int .i64 0, .int .i64 0, .int .i64 0, .int .i64 0, .int .i64 0, .int .i64 0, .int .i64 0, .int .i64 0, .int .i64 0, .int .i64 0, .int .i64 0] 52)).row (k := w1.heap.size) (Nat.le_refl _) y.b.cells
      refine at_worldE (fun W => Ext w1 W ∧ Blk W w1.heap.size 52 y.b.cells) ⟨E2, K9⟩ ?_
      clear K8 K9 st E2 hen
      rintro W2 ⟨E2, K2⟩
      obtain ⟨hX, ho, hT, hK⟩ := HV.out
      have hs1 := hk1.size
      have hs2 := E2.size
      have hlo : ∀ k, u6.ownBlock = some k → w'.heap.size + 1 ≤ k := fun k hk => (ho.lt k hk).1
      have o2 := (ho.rowed hk1.grown1 (fun k hk he => by have := hlo k hk; cases he; omega)).ext E2
      have i2 := hI1.ext E2
      have t2 := (hT.kp hk1 (by simp; omega) (by simp; omega) (by simp; omega) (by simp; omega) (by simp; omega)).kp (E2.kp []) (by simp) (by simp) (by simp) (by simp) (by simp)
      have k2 : Kp [gB, gF, gN] w' W2 := (hK.grown hk1.grown1 (fun g hg => by cases hg; omega)).andExt E2
      have hok := hX.inv.ok y.b (List.mem_map_of_mem hy)
      have hlast := hok.2.2.2
      have hIs : IsInt y.b.near := by
        obtain ⟨j, hj, hj2, _⟩ := hX.inv.near (List.mem_map_of_mem hy)
        have := t2.prt.n1
        unfold IsInt
        omega
      have c0 := K2.cells 0
      have cl := K2.cells 22
      change _ = some (Value.int .i64 y.b.flow.kind) at c0
      change _ = some (Value.int .i64 y.b.last) at cl
      have wl : IntKind.i64.wrap (now - y.b.last) = now - y.b.last := IntWalk.i64_in _ (by omega)
      have cT2 : W2.cell? ⟨gT, 2, none⟩ = some (.map (some gN)) := t2.ptr.cells 2
      have HX := Lib.hid hX
      have HO := Lib.hid (And.intro o2 (And.intro i2 (And.intro t2 (And.intro k2 K2))))
      clear hX ho hT hK o2 i2 t2 k2 hI1 hk1 hI MN HV hold hnd1 E2 hok hlast K2 hcount
      have hpe : past now y.b = !decide (now - y.b.last < life y.b.flow.kind) := rfl
      by_cases hk : y.b.flow.kind = 6
      case' pos =>
        have b1 : decide (y.b.flow.kind = 6) = true := decide_eq_true hk
        have b2 : (y.b.flow.kind == 6) = true := by rw [hk]; rfl
        have hp' : ∀ q, past now y.b = q → decide (now - y.b.last < 100) = !q := fun q hq => by rw [← hq, hpe, show life y.b.flow.kind = 100 from if_pos hk, Bool.not_not]
      case' neg =>
        have b1 : decide (y.b.flow.kind = 6) = false := decide_eq_false hk
        have b2 : (y.b.flow.kind == 6) = false := by simpa using hk
        have hp' : ∀ q, past now y.b = q → decide (now - y.b.last < 30) = !q := fun q hq => by rw [← hq, hpe, show life y.b.flow.kind = 30 from if_neg hk, Bool.not_not]
      all_goals
        clear hk hpe
        go_upto_region 10 with (fail)
        clear b1 b2 c0
        cases hp : past now y.b
        case false =>
          have d1 := hp' false hp
          rw [Bool.not_false] at d1
          have HR := Lib.hid (HX.out.stay hy hns hp)
          have hln := HR.out.vis.len
          have hg : goneT now (d ++ [y]) = goneT now d := by
            unfold goneT
            rw [List.filter_append, List.filter_cons_of_neg (by unfold pastT; rw [hp]; decide)]
            simp
          have HG := Lib.hid hg
          clear hp' hp hg cT2
          go_wp2_with fail
          go_roundw
          case rel => exact ⟨d ++ [y], l1, s1, HR.out, by simpa using HO.out.2.1, by rw [HG.out]; exact HO.out.1, HO.out.2.2.1, HO.out.2.2.2.1, by omega⟩
          case measure => rw [hC, HO.out.2.1.count]; simp at hln ⊢; omega
        case true =>
          have d1 := hp' true hp
          rw [Bool.not_true] at d1
          obtain ⟨i, hiy⟩ := List.mem_iff_getElem?.1 hy
          have HR := Lib.hid (HX.out.go hiy hns hp)
          clear hp' hp
          have hln := HR.out.1.vis.len
          have LN : keyI.look y.b.near (l1.map Te.inN) 0 = some (i, y.b.v) := by
            have := look_here (K := keyI) (x := y.inN) (o := 0) (i := i) (l := l1.map Te.inN) (by
              rw [List.map_map]
              have := HX.out.inv.nears
              rw [List.map_map] at this
              exact this) (by rw [List.getElem?_map, hiy]; rfl)
            rw [Nat.zero_add] at this
            exact this
          have LF : keyF.look y.b.flow (l1.map Te.inF) 0 = some (i, .int .i64 y.b.near) := by
            have := look_here (K := keyF) (x := y.inF) (o := 0) (i := i) (l := l1.map Te.inF) (by
              rw [List.map_map]
              have := HX.out.inv.flows
              rw [List.map_map] at this
              exact this) (by rw [List.getElem?_map, hiy]; rfl)
            rw [Nat.zero_add] at this
            exact this
          have N2 := HO.out.2.2.1.nears
          have hgv : s1.giveQ y.b.near = 0 := by unfold PS.giveQ; rw [if_pos HR.out.2.1]
          have K2 := HO.out.2.2.2.2
          go_upto_region 12 with (first | (refine at_delmap rfl _ _ 115 52 rfl N2 keyI_finds rfl Tryz.underlying115 y.b.near y.b.v i LN rfl ?_))
          have hne : w1.heap.size ≠ gN := by omega
          have N3 := N2.put ((l1.map Te.inN).eraseIdx i) cN (fun x hx => N2.old x ((List.eraseIdx_sublist ..).subset hx))
          have k3 : Kp [gN] W2 (putMap keyI W2 gN ((l1.map Te.inN).eraseIdx i) cN) := (Kp.refl _ W2).put (by simp) _ _
          refine at_worldE (fun W => MapIs keyI W gN ((l1.map Te.inN).eraseIdx i) cN ∧ Kp [gN] W2 W) ⟨N3, k3⟩ ?_
          clear N3 k3 N2 d1 wl cl cT2
          rintro W3 ⟨N3, k3⟩
          have BT := HO.out.2.2.1.ptr.kp k3 (by simp; omega)
          have cT1 : W3.cell? ⟨gT, 1, none⟩ = some (.map (some gF)) := BT.cells 1
          have K3 := K2.kp k3 (by simp; omega)
          have F3 := HO.out.2.2.1.flows.kp k3 (by simp; omega)
          have cT1d : W3.drew.cell? ⟨gT, 1, none⟩ = some (.map (some gF)) := cT1
          refine wp_region_held_drew (S := (fun w' => w'.cell? ⟨gT, 1, none⟩ = some (.map (some gF)) ∧ Blk w' w1.heap.size 52 y.b.cells)) (by kernel_rfl) ⟨cT1d, Blk.drew K3⟩ (fun hS0 => ?_)
          have F4 := F3.drewN 1
          have N4 := N3.drewN 1
          have k4 := k3.drew
          change MapIs keyF W3.drew _ _ _ at F4
          change MapIs keyI W3.drew _ _ _ at N4
          clear K2 K3 N3 F3 k3 BT cT1 cT1d
          generalize W3.drew = V at *
          (refine wpAnyH_take (i := 0) (v := ?_) rfl (by kernel_rfl) (by kernel_rfl) (by kernel_rfl) (fun _ _ _ h => h) (Or.inl ⟨by rfl, ?_⟩) (by assumption) ?_; rotate_left; focus (intro w hSw; (try dsimp only at hSw); go_simp; try with_reducible rfl); try simp only [Act.put, List.getElem_toArray, List.getElem_cons_succ, List.getElem_cons_zero, List.setIfInBounds_toArray, List.set_cons_zero, List.set_cons_succ])
          (refine wpAnyH_take (i := 1) (v := ?_) rfl (by kernel_rfl) (by kernel_rfl) (by kernel_rfl) (fun _ _ _ h => h) (Or.inl ⟨by rfl, ?_⟩) (by assumption) ?_; rotate_left; focus (intro w hSw; (try dsimp only at hSw); go_simp; try with_reducible rfl); try simp only [Act.put, List.getElem_toArray, List.getElem_cons_succ, List.getElem_cons_zero, List.setIfInBounds_toArray, List.set_cons_zero, List.set_cons_succ])
          (refine wpAnyH_take (i := 2) (v := ?_) rfl (by kernel_rfl) (by kernel_rfl) (by kernel_rfl) (fun _ _ _ h => h) (Or.inl ⟨by rfl, ?_⟩) (by assumption) ?_; rotate_left; focus (intro w hSw; (try dsimp only at hSw); go_simp; try with_reducible rfl); try simp only [Act.put, List.getElem_toArray, List.getElem_cons_succ, List.getElem_cons_zero, List.setIfInBounds_toArray, List.set_cons_zero, List.set_cons_succ])
          (refine wpAnyH_take (i := 3) (v := ?_) rfl (by kernel_rfl) (by kernel_rfl) (by kernel_rfl) (fun _ _ _ h => h) (Or.inl ⟨by rfl, ?_⟩) (by assumption) ?_; rotate_left; focus (intro w hSw; (try dsimp only at hSw); go_simp; try with_reducible rfl); try simp only [Act.put, List.getElem_toArray, List.getElem_cons_succ, List.getElem_cons_zero, List.setIfInBounds_toArray, List.set_cons_zero, List.set_cons_succ])
          (refine wpAnyH_take (i := 4) (v := ?_) rfl (by kernel_rfl) (by kernel_rfl) (by kernel_rfl) (fun _ _ _ h => h) (Or.inl ⟨by rfl, ?_⟩) (by assumption) ?_; rotate_left; focus (intro w hSw; (try dsimp only at hSw); go_simp; try with_reducible rfl); try simp only [Act.put, List.getElem_toArray, List.getElem_cons_succ, List.getElem_cons_zero, List.setIfInBounds_toArray, List.set_cons_zero, List.set_cons_succ])
          refine wpAnyH_take (i := 5) rfl (by kernel_rfl) (by kernel_rfl) (by kernel_rfl) (fun _ _ _ h => h) (Or.inl ⟨by rfl, fun W hS => exec_load rfl rfl (loaBdF hS.2)⟩) (by assumption) ?_
          (try simp only [Act.put, List.getElem_toArray, List.getElem_cons_succ, List.getElem_cons_zero, List.setIfInBounds_toArray, List.set_cons_zero, List.set_cons_succ])
          (refine wpAnyH_ready (rs := [6]) (by kernel_rfl) (by simp) ?_; refine AllReadyH.cons rfl (fun K hK => ?_) AllReadyH.nil)
          have hu : (Builtin.delete_ #[114, 50] 0 #[.map (some gF), .agg y.b.flow.cells]).run Tryz.prog V = .ok (.tuple #[]) _ := F4.delete keyF_finds 114 3 0 Tryz.underlying114 y.b.flow (.int .i64 y.b.near) i LF
          go_simp
          have F5 := F4.put ((l1.map Te.inF).eraseIdx i) cF (fun x hx => F4.old x ((List.eraseIdx_sublist ..).subset hx))
          have k5 : Kp [gF] V (putMap keyF V gF ((l1.map Te.inF).eraseIdx i) cF) := (Kp.refl _ V).put (by simp) _ _
          have S5 := hS0.2.kp k5 (by simp; omega)
          refine hK.out _ _ ⟨(World.cell?_of_block (putMap_other keyF V gF _ _ hTB.2.1)).trans hS0.1, S5⟩ ?_
          clear hK K hu hS0
          intro hS
          refine wpAnyH_done (by kernel_rfl) ?_ _
          have N5 := N4.kp k5 (by simp; omega)
          have k6 : Kp [gF, gN] W2 (putMap keyF V gF ((l1.map Te.inF).eraseIdx i) cF) := (k4.mono (by simp)).trans (k5.mono (by simp))
          clear F4 N4 k4 k5 hS
          generalize putMap keyF V gF ((l1.map Te.inF).eraseIdx i) cF = V5 at *
          have P5 := HO.out.2.2.1.prt.kp k6 (by simp; omega) (by simp; omega)
          have T5 := HO.out.2.2.1.ptr.kp k6 (by simp; omega)
          have cT0 : V5.cell? ⟨gT, 0, none⟩ = some (.pointer (some ⟨gP, 0, none⟩)) := T5.cells 0
          have hs6 := k6.size
          have E5 : ∀ g, g < W2.heap.size → g ≠ gF → g ≠ gN → V5.heap[g]? = W2.heap[g]? := fun g hg h1 h2 => k6.block g hg (by simp; exact ⟨h1, h2⟩)
          have HQ := Lib.hid (And.intro F5 (And.intro N5 (And.intro k6 (And.intro T5 S5))))
          have HGV := Lib.hid (give_any gP gB s1 y.b.near V5 P5 hIs)
          clear F5 N5 k6 T5 P5 S5 hIs LN LF
          go_wp2_with fail
          refine HGV.out.mono ?_
          rintro e V6 ⟨rfl, p6, g6⟩
          rw [hgv, erv_zero]
          have k7 := Kp.ofRow g6
          have K6 := HQ.out.2.2.2.2.only g6 (by omega)
          have ld : (Instr.loadAt 52 (.pointer (some ⟨w1.heap.size, 0, none⟩))).run Tryz.prog V6 = .ok (.agg #[.int .i64 y.b.flow.kind, .int .i64 y.b.flow.client.x0, .int .i64 y.b.flow.client.x1, .int .i64 y.b.flow.client.x2, .int .i64 y.b.flow.client.x3, .int .i64 y.b.flow.client.x4, .int .i64 y.b.flow.client.x5, .int .i64 y.b.flow.client.x6, .int .i64 y.b.flow.client.x7, .int .i64 y.b.flow.port, .int .i64 y.b.flow.dst.x0, .int .i64 y.b.flow.dst.x1, .int .i64 y.b.flow.dst.x2, .int .i64 y.b.flow.dst.x3, .int .i64 y.b.flow.dst.x4, .int .i64 y.b.flow.dst.x5, .int .i64 y.b.flow.dst.x6, .int .i64 y.b.flow.dst.x7, .int .i64 y.b.flow.door, .int .i64 y.b.near, .int .i64 y.b.back, .int .i64 y.b.far, .int .i64 y.b.last]) V6 := loaBd K6
          have HK6 := Lib.hid K6
          clear HGV K6
          go_wp2_with (first | ((apply load_by rfl _ _ rfl _ rfl); (focus (with_reducible assumption))) | (at_builtin; refine Halt.out ?_))
          refine Halt.mk ?_
          obtain ⟨F5, N5, k6, T5, S5⟩ := HQ.out
          have hlo : ∀ k, u6.ownBlock = some k → w'.heap.size + 1 ≤ k := fun k hk => (HO.out.1.lt k hk).1
          have hs7 := k7.size
          have ow6 := ((HO.out.1.kp k6 (fun g hg => by have := hlo g hg; simp; omega)).kp k7 (fun g hg => by have := hlo g hg; simp; omega))
          have i6 := (HO.out.2.1.kp k6 (by simp; omega)).kp k7 (by simp; omega)
          have T6 := T5.kp k7 (by simp; omega)
          have F6 := F5.kp k7 (by simp; omega)
          have N6 := N5.kp k7 (by simp; omega)
          have kk6 : Kp [gB, gF, gN] w' V6 := (HO.out.2.2.2.1.trans (k6.mono (by simp))).trans (k7.mono (by simp))
          have hap2 := HO.out.2.2.1.apart
          have hsz : (goneT now d).length ≤ 128 := by
            have h1 : (goneT now d).length ≤ d.length := by unfold goneT; rw [List.length_map]; exact List.length_filter_le _ _
            omega
          clear ld HQ k7 F5 N5 k6 T5 S5
          refine appBL rfl _ _ rfl (w'.heap.size + 1) u6 (goneT now d) rfl (ow6.ext ((Ext.refl V6).alloc _)) _ _ _ [y.b] rfl (Blk.binds1 (b := y.b) (Blk.new _ _ _)) (by omega) (by simp; omega) ?_
          intro v9 W9 o9 g9 b9 l9
          have hnl : ∀ g, g < w'.heap.size → g ∉ u6.ownBlock.toList := fun g hg hm => by
            have := hlo g (by simpa using hm); omega
          have E7 : Ext V6 _ := (Ext.refl V6).alloc (.cells #[.int .i64 y.b.flow.kind, .int .i64 y.b.flow.client.x0, .int .i64 y.b.flow.client.x1, .int .i64 y.b.flow.client.x2, .int .i64 y.b.flow.client.x3, .int .i64 y.b.flow.client.x4, .int .i64 y.b.flow.client.x5, .int .i64 y.b.flow.client.x6, .int .i64 y.b.flow.client.x7, .int .i64 y.b.flow.port, .int .i64 y.b.flow.dst.x0, .int .i64 y.b.flow.dst.x1, .int .i64 y.b.flow.dst.x2, .int .i64 y.b.flow.dst.x3, .int .i64 y.b.flow.dst.x4, .int .i64 y.b.flow.dst.x5, .int .i64 y.b.flow.dst.x6, .int .i64 y.b.flow.dst.x7, .int .i64 y.b.flow.door, .int .i64 y.b.near, .int .i64 y.b.back, .int .i64 y.b.far, .int .i64 y.b.last] 52)
          have kr := Kp.ofRow g9
          have i9 := (i6.ext E7).kp kr (fun hm => by have := hlo _ (by simpa using hm); omega)
          have t9 : Tab W9 gT gP gB gF gN (s1.back y.b.near) (l1.eraseIdx i) cF cN :=
            ⟨(T6.ext E7).kp kr (hnl _ hTl), (p6.ext E7).kp kr (hnl _ hPl) (hnl _ hBl), by rw [← erase_inF]; exact (F6.ext E7).kp kr (hnl _ hFl), by rw [← erase_inN]; exact (N6.ext E7).kp kr (hnl _ hNl), hap2⟩
          have k9 := (kk6.andExt E7).grown g9 (fun g hg => by have := hlo g hg; omega)
          have hs9 := (E7.size)
          have hs10 := g9.size
          have hc9 := i9.count
          have o10 : KB.Own 52 W9 (w'.heap.size + 1) v9 (goneT now (d ++ [y])) := by rw [HR.out.2.2]; exact o9
          have HF := Lib.hid (And.intro o10 (And.intro i9 (And.intro t9 k9)))
          clear o9 g9 b9 l9 E7 kr i9 t9 k9 o10 ow6 i6 T6 F6 N6 kk6 p6 g6 hnl hlo
          go_wp2_with fail
          go_roundw
          case rel => exact ⟨d ++ [y], l1.eraseIdx i, s1.back y.b.near, HR.out.1, by simpa using HF.out.2.1, HF.out.1, HF.out.2.2.1, HF.out.2.2.2, by omega⟩
          case measure => rw [hC, hc9]; simp at hln ⊢; omega
end Go.Proofs.YtbjogkpepfgegaaGreatDoor
namespace Go.Proofs.YtbjogkpepfgegaaGreatDoor
open Go.RowKit
/-- Expire, whole. -/
theorem expire_any (G : TG) (s : PS) (B : List Bd) (now : Int) (w : World) (h : TB w G s B) :
    Calls Tryz.prog 40 #[.pointer (some ⟨G.gT, 0, none⟩), .int .i64 now] w fun e w' => ∃ v, e = .returned (.tuple #[v, erv (if okT now = true then 0 else 1)]) ∧ KB.Own 52 w' w.heap.size v (if okT now = true then outB now B else []) ∧
      TB w' G (if okT now = true then s.backs (outB now B) else s) (if okT now = true then restB now B else B) ∧ Kp G.mut w w' := by
  obtain ⟨l, cF, cN, ht, p, hnd⟩ := h.ex
  cases hn : okT now
  case false =>
    refine (texp_bad G.gT now w hn).mono ?_
    rintro e w' ⟨rfl, rfl⟩
    exact ⟨_, rfl, Kin.Own.nil _ _, h, Kp.refl _ _⟩
  case true =>
    refine (texp_any _ _ _ _ _ s l cF cN B now w ht p hnd h.inv hn).mono ?_
    rintro e w' ⟨v, l', rfl, ho, ht', p', hnd', hi', k⟩
    exact ⟨v, rfl, ho, ⟨⟨l', cF, cN, ht', p', hnd'⟩, hi'⟩, k⟩
end Go.Proofs.YtbjogkpepfgegaaGreatDoor
namespace Go.Proofs.YtbjogkpepfgegaaGreatDoor
open Go.RowKit
section
variable {κ : Type} {K : Keys κ} {w : World} {g : Nat} {l : List (Ent κ)} {clock : Nat}
/-- delete at a key that is not there. -/
theorem MapIs.delete_no (h : MapIs K w g l clock) (hF : K.Finds) (mt e ty : TypeId) (hm : Tryz.prog.underlying mt = some (.map K.t e)) (k : κ) (hk : K.look k l 0 = none) :
    (Builtin.delete_ #[mt, K.t] ty #[.map (some g), K.f k]).run Tryz.prog w = .ok (.tuple #[]) (putMap K w g l clock) := by
  have hf := hF k l w
  rw [hk] at hf
  have hc := fun b => K.check b k w
  simp [Builtin.delete_, run_underlying hm, MapKept.run_getObj_map h.here, hc, hf, MapKept.run_setObj_map _ h.here, Result.andThen, putMap]
end
section
variable {w w' : World} {G : GG} {c : Cfg} {bs : List Pl.Back} {s s' : PS} {B B' : List Bd} {now : Int}
theorem GW.tick (h : GW w G c bs s B now) (m : Int) : GW (w.setCell ⟨G.g, 25, none⟩ (.int .i64 m)) G c bs s B m := by
  have ha := h.apart
  simp only [GG.all, List.nodup_cons] at ha
  have k := Kp.cell w G.g 25 (.int .i64 m)
  obtain ⟨q, hq⟩ := h.str
  refine ⟨h.blk.put 25 (.int .i64 m), h.tab.kp k (fun g hg hm => ha.1 (by simp at hm; subst hm; simp [hg])), ⟨q, (k.block _ (Array.getElem?_eq_some_iff.1 hq).1 (fun hm => ha.1 (by simp at hm; simp [← hm]))).trans hq⟩, h.bks.kp k (fun j hj hm => h.bk j hj (by simp at hm; subst hm; simp [GG.all])), h.apart, h.bk⟩
theorem GW.struck (h : GW w G c bs s B now) (q : Nat) : GW (putMap keyI w G.gS [] q) G c bs s B now := by
  have ha := h.apart
  simp only [GG.all, List.nodup_cons] at ha
  have hlt := h.lt G.gS (by simp [GG.all])
  have k : Kp [G.gS] w (putMap keyI w G.gS [] q) := (Kp.refl _ w).put (by simp) _ _
  refine ⟨h.blk.kp k (fun hm => ha.1 (by simp at hm; simp [hm])), h.tab.kp k (fun g hg hm => ha.2.1 (by simp at hm; subst hm; exact hg)), ⟨q, ?_⟩, h.bks.kp k (fun j hj hm => h.bk j hj (by simp at hm; subst hm; simp [GG.all])), h.apart, h.bk⟩
  show (w.heap.setIfInBounds G.gS _)[G.gS]? = _
  rw [Array.getElem?_setIfInBounds_self, if_pos hlt]
  rfl
end
set_option maxRecDepth 100000 in
set_option maxHeartbeats 2000000 in
theorem gtick_any (G : GG) (c : Cfg) (bs : List Pl.Back) (s : PS) (B : List Bd) (now n : Int) (w : World) (h : GW w G c bs s B now) (hn : 0 ≤ n ∧ n ≤ 1000) (ht : 0 ≤ now ∧ now + n ≤ 1099511627776) :
    Calls Tryz.prog 15 #[.pointer (some ⟨G.g, 0, none⟩), .int .i64 n] w fun e w' => e = .returned .nilIface ∧ GW w' G c bs (s.backs (outB (now + n) B)) (restB (now + n) B) (now + n) ∧ Kp (G.g :: G.gS :: G.T.mut) w w' := by
  have c25 := h.nums.2.2.2.2.2.2.2.2
  have f25 := h.blk.free 25
  have hok : okT (now + n) = true := okT_iff.2 ⟨by omega, ht.2⟩
  have h1 : decide (n < 0) = false := decide_eq_false (by omega)
  have h2 : decide (1000 < n) = false := decide_eq_false (by omega)
  have h3 : decide (1099511627776 < now + n) = false := decide_eq_false (by omega)
  have wk : IntKind.i64.wrap (now + n) = now + n := IntWalk.i64_in _ (by omega)
  have G1 := h.tick (now + n)
  have k1 := Kp.cell w G.g 25 (.int .i64 (now + n))
  have hi := h.tab.inv
  obtain ⟨_, _, _, htb, _⟩ := h.tab.ex
  obtain ⟨hr1, hr2⟩ := Inv.range hi.toInv0 htb.prt.n1
  have hll : (outB (now + n) B).length ≤ 128 := by have := List.length_filter_le (past (now + n)) B; unfold outB; omega
  have HX := Lib.hid (fun V (g : GW V G c bs s B (now + n)) => (show Calls Tryz.prog 40 #[.pointer (some ⟨G.T.gT, 0, none⟩), .int .i64 (now + n)] V fun e w' => ∃ v, e = .returned (.tuple #[v, .nilIface]) ∧ KB.Own 52 w' V.heap.size v (outB (now + n) B) ∧ TB w' G.T (s.backs (outB (now + n) B)) (restB (now + n) B) ∧ Kp G.T.mut V w' from by
    have hx := expire_any G.T s B (now + n) V g.tab
    simp only [hok, if_true, erv_zero] at hx
    exact hx))
  have HB := Lib.hid (fun V (g : GW V G c bs s B (now + n)) => (And.intro g.nums.2.2.2.2.2.2.1 (And.intro g.nums.2.2.2.2.2.2.2.2 g.blk.lt)))
  have ha := h.apart
  simp only [GG.all, List.nodup_cons] at ha
  have hgm : G.g ∉ G.T.mut := fun hm => ha.1 (by simp [TG.mut_all _ _ hm])
  have HL := Lib.hid h.lt
  clear h hi htb hr1 hr2 ha hok
  go_enter Tryz.func15, Tryz.ntmps15
  go_upto_region 4 with (fail)
  refine at_worldE (fun W => GW W G c bs s B (now + n) ∧ Kp [G.g] w W) ⟨G1, k1⟩ ?_
  clear G1 k1 c25 f25 h1 h2 h3
  rintro W1 ⟨G1, k1⟩
  have D0 : Ext W1 W1.drew := (Ext.refl W1).drew
  have HS := Lib.hid (fun V (g : GW V G c bs s B (now + n)) => (show V.cell? ⟨G.g, 23, none⟩ = some (.pointer (some ⟨G.T.gT, 0, none⟩)) ∧ V.cell? ⟨G.g, 25, none⟩ = some (.int .i64 (now + n)) from ⟨(HB.out V g).1, (HB.out V g).2.1⟩))
  have HS0 := HS.out _ (G1.ext D0)
  refine wp_region_held_drew (S := (fun V => V.cell? ⟨G.g, 23, none⟩ = some (.pointer (some ⟨G.T.gT, 0, none⟩)) ∧ V.cell? ⟨G.g, 25, none⟩ = some (.int .i64 (now + n)))) (by kernel_rfl) HS0 (fun hS0 => ?_)
  clear HS0
  have G2 := G1.ext D0
  have k2 := k1.andExt D0
  clear G1 k1 D0
  generalize W1.drew = V1 at *
  (refine wpAnyH_take (i := 0) (v := ?_) rfl (by kernel_rfl) (by kernel_rfl) (by kernel_rfl) (fun _ _ _ h => h) (Or.inl ⟨by rfl, ?_⟩) (by assumption) ?_; rotate_left; focus (intro w hSw; (try dsimp only at hSw); go_simp; try with_reducible rfl); try simp only [Act.put, List.getElem_toArray, List.getElem_cons_succ, List.getElem_cons_zero, List.setIfInBounds_toArray, List.set_cons_zero, List.set_cons_succ])
  (refine wpAnyH_take (i := 1) (v := ?_) rfl (by kernel_rfl) (by kernel_rfl) (by kernel_rfl) (fun _ _ _ h => h) (Or.inl ⟨by rfl, ?_⟩) (by assumption) ?_; rotate_left; focus (intro w hSw; (try dsimp only at hSw); go_simp; try with_reducible rfl); try simp only [Act.put, List.getElem_toArray, List.getElem_cons_succ, List.getElem_cons_zero, List.setIfInBounds_toArray, List.set_cons_zero, List.set_cons_succ])
  (refine wpAnyH_take (i := 2) (v := ?_) rfl (by kernel_rfl) (by kernel_rfl) (by kernel_rfl) (fun _ _ _ h => h) (Or.inl ⟨by rfl, ?_⟩) (by assumption) ?_; rotate_left; focus (intro w hSw; (try dsimp only at hSw); go_simp; try with_reducible rfl); try simp only [Act.put, List.getElem_toArray, List.getElem_cons_succ, List.getElem_cons_zero, List.setIfInBounds_toArray, List.set_cons_zero, List.set_cons_succ])
  (refine wpAnyH_take (i := 3) (v := ?_) rfl (by kernel_rfl) (by kernel_rfl) (by kernel_rfl) (fun _ _ _ h => h) (Or.inl ⟨by rfl, ?_⟩) (by assumption) ?_; rotate_left; focus (intro w hSw; (try dsimp only at hSw); go_simp; try with_reducible rfl); try simp only [Act.put, List.getElem_toArray, List.getElem_cons_succ, List.getElem_cons_zero, List.setIfInBounds_toArray, List.set_cons_zero, List.set_cons_succ])
  (refine wpAnyH_take (i := 4) (v := ?_) rfl (by kernel_rfl) (by kernel_rfl) (by kernel_rfl) (fun _ _ _ h => h) (Or.inl ⟨by rfl, ?_⟩) (by assumption) ?_; rotate_left; focus (intro w hSw; (try dsimp only at hSw); go_simp; try with_reducible rfl); try simp only [Act.put, List.getElem_toArray, List.getElem_cons_succ, List.getElem_cons_zero, List.setIfInBounds_toArray, List.set_cons_zero, List.set_cons_succ])
  (refine wpAnyH_take (i := 5) (v := ?_) rfl (by kernel_rfl) (by kernel_rfl) (by kernel_rfl) (fun _ _ _ h => h) (Or.inl ⟨by rfl, ?_⟩) (by assumption) ?_; rotate_left; focus (intro w hSw; (try dsimp only at hSw); go_simp; try with_reducible rfl); try simp only [Act.put, List.getElem_toArray, List.getElem_cons_succ, List.getElem_cons_zero, List.setIfInBounds_toArray, List.set_cons_zero, List.set_cons_succ])
  (refine wpAnyH_take (i := 6) (v := ?_) rfl (by kernel_rfl) (by kernel_rfl) (by kernel_rfl) (fun _ _ _ h => h) (Or.inl ⟨by rfl, ?_⟩) (by assumption) ?_; rotate_left; focus (intro w hSw; (try dsimp only at hSw); go_simp; try with_reducible rfl); try simp only [Act.put, List.getElem_toArray, List.getElem_cons_succ, List.getElem_cons_zero, List.setIfInBounds_toArray, List.set_cons_zero, List.set_cons_succ])
  (refine wpAnyH_take (i := 7) (v := ?_) rfl (by kernel_rfl) (by kernel_rfl) (by kernel_rfl) (fun _ _ _ h => h) (Or.inl ⟨by rfl, ?_⟩) (by assumption) ?_; rotate_left; focus (intro w hSw; (try dsimp only at hSw); go_simp; try with_reducible rfl); try simp only [Act.put, List.getElem_toArray, List.getElem_cons_succ, List.getElem_cons_zero, List.setIfInBounds_toArray, List.set_cons_zero, List.set_cons_succ])
  (try simp only [Act.put, List.getElem_toArray, List.getElem_cons_succ, List.getElem_cons_zero, List.setIfInBounds_toArray, List.set_cons_zero, List.set_cons_succ])
  (refine wpAnyH_ready (rs := [8]) (by kernel_rfl) (by simp) ?_; refine AllReadyH.cons rfl (fun K hK => ?_) AllReadyH.nil)
  go_simp
  go_at_call 40
  refine (HX.out V1 G2).mono ?_
  rintro e V2 ⟨v, rfl, ho, tb, q⟩
  have G3 := G2.turn q tb
  have k3 : Kp (G.g :: G.T.mut) w V2 := (k2.mono (by simp)).trans (q.mono (by intro g hg; simp [hg]))
  refine hK.out _ _ ⟨G3.nums.2.2.2.2.2.2.1, G3.nums.2.2.2.2.2.2.2.2⟩ ?_
  clear hK K hS0
  intro hS1
  (try simp only [Act.put, List.getElem_toArray, List.getElem_cons_succ, List.getElem_cons_zero, List.setIfInBounds_toArray, List.set_cons_zero, List.set_cons_succ])
  (refine wpAnyH_take (i := 9) (v := ?_) rfl (by kernel_rfl) (by kernel_rfl) (by kernel_rfl) (fun _ _ _ h => h) (Or.inl ⟨by rfl, ?_⟩) (by assumption) ?_; rotate_left; focus (intro w hSw; (try dsimp only at hSw); go_simp; try with_reducible rfl); try simp only [Act.put, List.getElem_toArray, List.getElem_cons_succ, List.getElem_cons_zero, List.setIfInBounds_toArray, List.set_cons_zero, List.set_cons_succ])
  (refine wpAnyH_take (i := 10) (v := ?_) rfl (by kernel_rfl) (by kernel_rfl) (by kernel_rfl) (fun _ _ _ h => h) (Or.inl ⟨by rfl, ?_⟩) (by assumption) ?_; rotate_left; focus (intro w hSw; (try dsimp only at hSw); go_simp; try with_reducible rfl); try simp only [Act.put, List.getElem_toArray, List.getElem_cons_succ, List.getElem_cons_zero, List.setIfInBounds_toArray, List.set_cons_zero, List.set_cons_succ])
  (refine wpAnyH_take (i := 11) (v := ?_) rfl (by kernel_rfl) (by kernel_rfl) (by kernel_rfl) (fun _ _ _ h => h) (Or.inl ⟨by rfl, ?_⟩) (by assumption) ?_; rotate_left; focus (intro w hSw; (try dsimp only at hSw); go_simp; try with_reducible rfl); try simp only [Act.put, List.getElem_toArray, List.getElem_cons_succ, List.getElem_cons_zero, List.setIfInBounds_toArray, List.set_cons_zero, List.set_cons_succ])
  (refine wpAnyH_take (i := 12) (v := ?_) rfl (by kernel_rfl) (by kernel_rfl) (by kernel_rfl) (fun _ _ _ h => h) (Or.inl ⟨by rfl, ?_⟩) (by assumption) ?_; rotate_left; focus (intro w hSw; (try dsimp only at hSw); go_simp; try with_reducible rfl); try simp only [Act.put, List.getElem_toArray, List.getElem_cons_succ, List.getElem_cons_zero, List.setIfInBounds_toArray, List.set_cons_zero, List.set_cons_succ])
  (refine wpAnyH_take (i := 13) (v := ?_) rfl (by kernel_rfl) (by kernel_rfl) (by kernel_rfl) (fun _ _ _ h => h) (Or.inl ⟨by rfl, ?_⟩) (by assumption) ?_; rotate_left; focus (intro w hSw; (try dsimp only at hSw); go_simp; try with_reducible rfl); try simp only [Act.put, List.getElem_toArray, List.getElem_cons_succ, List.getElem_cons_zero, List.setIfInBounds_toArray, List.set_cons_zero, List.set_cons_succ])
  refine wpAnyH_done (by kernel_rfl) ?_ _
  have hge : w.heap.size ≤ V1.heap.size := k2.size
  generalize V1.heap.size = C at *
  obtain ⟨a6, n6, m6, rfl, hnm, hsee⟩ := ho.read
  have hn6 : (outB (now + n) B).length = n6 := hsee.1
  have HI := Lib.hid (And.intro ho (And.intro G3 k3))
  clear hS1 q tb G2 k2 hsee ho G3 k3
  go_wp2_with fail
  go_loopw [47] (fun i wr => ∃ k : Nat, k ≤ n6 ∧ i = .int .i64 k ∧ KB.Own 52 wr C (.slice a6 n6 m6) (outB (now + n) B) ∧ GW wr G c bs (s.backs (outB (now + n) B)) (restB (now + n) B) (now + n) ∧ Kp (G.g :: G.gS :: G.T.mut) w wr) (fun i _ => n6 - (intOf i).toNat)
  case atStart => exact ⟨0, Nat.zero_le _, rfl, HI.out.1, HI.out.2.1, HI.out.2.2.mono (by intro g hg; simp at hg ⊢; rcases hg with hg | hg <;> simp [hg])⟩
  case round =>
    obtain ⟨k, hk, rfl, ho, g3, k3⟩ := hrel
    clear HI
    by_cases hlt : k < n6
    case neg =>
      obtain rfl : n6 = k := by omega
      have HF := Lib.hid (And.intro g3 k3)
      clear ho g3 k3
      go_wp2_with fail
      go_returns
      exact ⟨rfl, HF.out⟩
    case pos =>
      have hsee := ho.read
      obtain ⟨_, _, _, hv6, _, hsee⟩ := hsee
      cases hv6
      obtain ⟨y, hy⟩ : ∃ y, (outB (now + n) B)[k]? = some y := ⟨_, List.getElem?_eq_getElem (by omega)⟩
      obtain ⟨ab, ao, rfl, _, _⟩ := hsee.at (Ext.refl wr) (by omega)
      have ld : (Instr.loadAt 52 (.pointer (some ⟨ab, ao + k * 23, none⟩))).run Tryz.prog wr = .ok (.agg y.cells) wr := hsee.bind hy
      have KZ := Blk.new wr 52 #[.int .i64 0, .int .i64 0, .int .i64 0, .int .i64 0, .int .i64 0, .int .i64 0, .int .i64 0, .int .i64 0, .int .i64 0, .int .i64 0, .int .i64 0, .int .i64 0, .int .i64 0, .int .i64 0, .int .i64 0, .int .i64 0, .int .i64 0, .int .i64 0, .int .i64 0, .int .i64 0, .int .i64 0, .int .i64 0, .int .i64 0]
      have st := stoBd KZ y
      have K5 := KZ.row y.cells
      have E5 : Ext wr _ := ((Ext.refl wr).alloc (.cells #[.int .i64 0, .int .i64 0, .int .i64 0, .int .i64 0, .int .i64 0, .int .i64 0, .int .i64 0, .int .i64 0, .int .i64 0, .int .i64 0, .int .i64 0, .int .i64 0, .int .i64 0, .int .i64 0, .int .i64 0, .int .i64 0, .int .i64 0, .int .i64 0, .int .i64 0, .int .i64 0, .int .i64 0, .int .i64 0, .int .i64 0] 52)).row (k := wr.heap.size) (Nat.le_refl _) y.cells
      have wk2 : IntKind.i64.wrap ((k : Int) + 1) = (k : Int) + 1 := IntWalk.i64_in _ (by omega)
      have HV := Lib.hid (And.intro ho (And.intro g3 k3))
      have hrw : w.heap.size ≤ wr.heap.size := k3.size
      have hgS : G.gS < w.heap.size := HL.out _ (by simp [GG.all])
      have hslt : ∀ j, (Value.slice (some ⟨ab, ao, none⟩) n6 m6).ownBlock = some j → C ≤ j := fun j hj => (ho.lt j hj).1
      clear KZ ho g3 k3 hsee hy
      go_upto_region 8 with (first | ((apply load_by rfl _ _ rfl _ rfl); (focus (with_reducible assumption))) | ((apply store_by rfl _ _ _ rfl _ rfl); (focus (with_reducible assumption)); (focus rfl)))
      refine at_worldE (fun W => Ext wr W ∧ Blk W wr.heap.size 52 y.cells) ⟨E5, K5⟩ ?_
      clear ld st K5 E5
      rintro W6 ⟨E6, K6⟩
      obtain ⟨ho, g3, k3⟩ := HV.out
      have D0 : Ext W6 W6.drew := (Ext.refl W6).drew
      have g7 := (g3.ext E6).ext D0
      have o7 := (ho.ext E6).ext D0
      have k7 := (k3.andExt E6).andExt D0
      have K7 := K6.drew
      have HS0 : W6.drew.cell? ⟨G.g, 24, none⟩ = some (.map (some G.gS)) ∧ W6.drew.cell? ⟨wr.heap.size, 19, none⟩ = some (.int .i64 y.near) := ⟨g7.nums.2.2.2.2.2.2.2.1, K7.cells 19⟩
      refine wp_region_held_drew (S := (fun V => V.cell? ⟨G.g, 24, none⟩ = some (.map (some G.gS)) ∧ V.cell? ⟨wr.heap.size, 19, none⟩ = some (.int .i64 y.near))) (by kernel_rfl) HS0 (fun hS0 => ?_)
      clear HS0 HV ho g3 k3 E6 K6 D0
      generalize W6.drew = V6 at *
      (refine wpAnyH_take (i := 0) (v := ?_) rfl (by kernel_rfl) (by kernel_rfl) (by kernel_rfl) (fun _ _ _ h => h) (Or.inl ⟨by rfl, ?_⟩) (by assumption) ?_; rotate_left; focus (intro w hSw; (try dsimp only at hSw); go_simp; try with_reducible rfl); try simp only [Act.put, List.getElem_toArray, List.getElem_cons_succ, List.getElem_cons_zero, List.setIfInBounds_toArray, List.set_cons_zero, List.set_cons_succ])
      (refine wpAnyH_take (i := 1) (v := ?_) rfl (by kernel_rfl) (by kernel_rfl) (by kernel_rfl) (fun _ _ _ h => h) (Or.inl ⟨by rfl, ?_⟩) (by assumption) ?_; rotate_left; focus (intro w hSw; (try dsimp only at hSw); go_simp; try with_reducible rfl); try simp only [Act.put, List.getElem_toArray, List.getElem_cons_succ, List.getElem_cons_zero, List.setIfInBounds_toArray, List.set_cons_zero, List.set_cons_succ])
      (refine wpAnyH_take (i := 2) (v := ?_) rfl (by kernel_rfl) (by kernel_rfl) (by kernel_rfl) (fun _ _ _ h => h) (Or.inl ⟨by rfl, ?_⟩) (by assumption) ?_; rotate_left; focus (intro w hSw; (try dsimp only at hSw); go_simp; try with_reducible rfl); try simp only [Act.put, List.getElem_toArray, List.getElem_cons_succ, List.getElem_cons_zero, List.setIfInBounds_toArray, List.set_cons_zero, List.set_cons_succ])
      (refine wpAnyH_take (i := 3) (v := ?_) rfl (by kernel_rfl) (by kernel_rfl) (by kernel_rfl) (fun _ _ _ h => h) (Or.inl ⟨by rfl, ?_⟩) (by assumption) ?_; rotate_left; focus (intro w hSw; (try dsimp only at hSw); go_simp; try with_reducible rfl); try simp only [Act.put, List.getElem_toArray, List.getElem_cons_succ, List.getElem_cons_zero, List.setIfInBounds_toArray, List.set_cons_zero, List.set_cons_succ])
      (refine wpAnyH_take (i := 4) (v := ?_) rfl (by kernel_rfl) (by kernel_rfl) (by kernel_rfl) (fun _ _ _ h => h) (Or.inl ⟨by rfl, ?_⟩) (by assumption) ?_; rotate_left; focus (intro w hSw; (try dsimp only at hSw); go_simp; try with_reducible rfl); try simp only [Act.put, List.getElem_toArray, List.getElem_cons_succ, List.getElem_cons_zero, List.setIfInBounds_toArray, List.set_cons_zero, List.set_cons_succ])
      (refine wpAnyH_take (i := 5) (v := ?_) rfl (by kernel_rfl) (by kernel_rfl) (by kernel_rfl) (fun _ _ _ h => h) (Or.inl ⟨by rfl, ?_⟩) (by assumption) ?_; rotate_left; focus (intro w hSw; (try dsimp only at hSw); go_simp; try with_reducible rfl); try simp only [Act.put, List.getElem_toArray, List.getElem_cons_succ, List.getElem_cons_zero, List.setIfInBounds_toArray, List.set_cons_zero, List.set_cons_succ])
      (try simp only [Act.put, List.getElem_toArray, List.getElem_cons_succ, List.getElem_cons_zero, List.setIfInBounds_toArray, List.set_cons_zero, List.set_cons_succ])
      (refine wpAnyH_ready (rs := [6]) (by kernel_rfl) (by simp) ?_; refine AllReadyH.cons rfl (fun K hK => ?_) AllReadyH.nil)
      obtain ⟨q, hq⟩ := g7.str
      have hm : MapIs keyI V6 G.gS [] q := ⟨hq, fun _ h => by cases h⟩
      have hu : (Builtin.delete_ #[69, 3] 0 #[.map (some G.gS), .int .i64 y.near]).run Tryz.prog V6 = .ok (.tuple #[]) _ := hm.delete_no keyI_finds 69 90 0 Tryz.underlying69 y.near rfl
      go_simp
      have k8 : Kp [G.gS] V6 (putMap keyI V6 G.gS [] q) := (Kp.refl _ V6).put (by simp) _ _
      have g8 := g7.struck q
      have K8 := K7.kp k8 (by simp; omega)
      refine hK.out _ _ ⟨g8.nums.2.2.2.2.2.2.2.1, K8.cells 19⟩ ?_
      clear hK K hS0
      intro hS
      refine wpAnyH_done (by kernel_rfl) ?_ _
      have o8 := o7.kp k8 (fun j hj => by have := hslt j hj; simp; omega)
      have k9 : Kp (G.g :: G.gS :: G.T.mut) w _ := k7.trans (k8.mono (by simp))
      have HF := Lib.hid (And.intro o8 (And.intro g8 k9))
      clear hS hu hm hq g7 o7 k7 K7 k8 g8 K8 o8 k9
      go_wp2_with fail
      go_roundw
      case rel => exact ⟨k + 1, by omega, by go_num, HF.out.1, HF.out.2.1, HF.out.2.2⟩
      case measure => simp [intOf] <;> omega
end Go.Proofs.YtbjogkpepfgegaaGreatDoor
