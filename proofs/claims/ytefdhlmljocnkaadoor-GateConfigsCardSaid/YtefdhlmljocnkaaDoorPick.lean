/- The contract of pick.Pick. Conditions: as each theorem states them. -/
import Derived.Test.YtefdhlmljocnkaaDoorScore
import Derived.Test.YtefdhlmljocnkaaDoorBacks
namespace Go.Proofs.YtefdhlmljocnkaaDoor
open Go.RowKit
namespace Pl
/-- May servers be? -/
def OkBacks (bs : List Back) : Prop := bs.length ≤ 8 ∧ ∀ j, j < bs.length → Fine bs j
/-- What counts for a server. -/
def worth (seed : Int) (f : Flow) (b : Back) : Int := score seed f b.id * b.weight
theorem score_bd {seed : Int} (f : Flow) (id : Int) (h : 0 ≤ seed ∧ seed < 2147483648) : 0 ≤ score seed f id ∧ score seed f id < 8388608 := by
  have := mix_bd (mix (mix (mix (mix seed [f.kind]) f.client.l) [f.port]) f.dst.l) [f.door, id] (mix_bd _ _ (mix_bd _ _ (mix_bd _ _ (mix_bd _ _ h))))
  unfold score
  omega
theorem Fine.apart {bs : List Back} {n : Nat} (h : ∀ j, j < n → Fine bs j) (i j : Nat) (hi : i < n) (hj : j < n) (hne : i ≠ j) : (bs.getD i back0).id ≠ (bs.getD j back0).id := by
  rcases Nat.lt_or_ge i j with hl | hl
  · exact (h j hj).2 i hl
  · exact fun e => (h i hi).2 j (by omega) e.symm
theorem OkBacks.num {bs : List Back} (h : OkBacks bs) {b : Back} (hb : b ∈ bs) : b.Num := by
  obtain ⟨i, hi, rfl⟩ := List.mem_iff_getElem.1 hb
  have := (h.2 i hi).1
  rwa [List.getD_eq_getElem?_getD, List.getElem?_eq_getElem hi, Option.getD_some] at this
theorem OkBacks.apart {bs : List Back} (h : OkBacks bs) : Apart bs := by
  unfold Apart
  rw [List.pairwise_iff_getElem]
  intro i j hi hj hij
  have := Fine.apart h.2 i j hi hj (by omega)
  rwa [List.getD_eq_getElem?_getD, List.getElem?_eq_getElem hi, Option.getD_some, List.getD_eq_getElem?_getD, List.getElem?_eq_getElem hj, Option.getD_some] at this
theorem OkBacks.of {bs : List Back} (hl : bs.length ≤ 8) (hn : ∀ b ∈ bs, b.Num) (ha : Apart bs) : OkBacks bs := by
  refine ⟨hl, fun j hj => ?_⟩
  have e : ∀ i (hi : i < bs.length), bs.getD i back0 = bs[i] := fun i hi => by rw [List.getD_eq_getElem?_getD, List.getElem?_eq_getElem hi, Option.getD_some]
  refine ⟨by rw [e j hj]; exact hn _ (List.getElem_mem hj), fun m hm => ?_⟩
  unfold Apart at ha
  rw [List.pairwise_iff_getElem] at ha
  rw [e j hj, e m (by omega)]
  exact ha m j (by omega) hj hm
end Pl

theorem pcheck_ok (a : Option Addr) (n c : Nat) (bs : List Pl.Back) (w : World) (hb : Backs w a n bs) (hnc : n ≤ c) (hok : Pl.OkBacks bs) :
    Calls Tryd.prog 45 #[.slice a n c] w fun e w' => e = .returned (.tuple #[.int .i64 0, .nilIface]) ∧ Ext w w' :=
  (pcheck_any a n c bs w hb (by rw [← hb.1]; exact hok.1) hnc).mono fun e w' ⟨⟨i, hi, hc⟩, hE⟩ => by
    refine ⟨?_, hE⟩
    rcases hc with ⟨_, he⟩ | ⟨h1, h2, _⟩ | ⟨h1, _, ⟨m, hm, he⟩, _⟩
    · exact he
    · exact absurd (hok.2 i h1).1 h2
    · exact absurd he ((hok.2 i h1).2 m hm)
/-- Some error's number. -/
def SomeErr (P : Value → Value) (e : Ending) : Prop := ∃ q : Int, e = .returned (P (errv q))
theorem pcheck_bad (a : Option Addr) (n c : Nat) (bs : List Pl.Back) (w : World) (hb : Backs w a n bs) (hnc : n ≤ c) (hok : ¬ Pl.OkBacks bs) :
    Calls Tryd.prog 45 #[.slice a n c] w fun e w' => (∃ i q : Int, e = .returned (.tuple #[.int .i64 i, errv q])) ∧ Ext w w' := by
  by_cases h8 : n ≤ 8
  · refine (pcheck_any a n c bs w hb h8 hnc).mono fun e w' ⟨⟨i, hi, hc⟩, hE⟩ => ⟨?_, hE⟩
    rcases hc with ⟨h0, _⟩ | ⟨_, _, he⟩ | ⟨_, _, _, he⟩
    · exact absurd ⟨by rw [hb.1]; exact h8, fun j hj => hi j (by rw [h0]; exact hj)⟩ hok
    · exact ⟨_, _, he⟩
    · exact ⟨_, _, he⟩
  · exact (pcheck_full a n c w (by omega)).mono fun e w' ⟨he, hE⟩ => ⟨⟨_, _, he⟩, hE⟩

/-- What Pick gives of servers and a flow that may be. -/
def PickRes (seed : Int) (f : Flow) (bs : List Pl.Back) (e : Ending) : Prop :=
  (Pl.best (Pl.worth seed f) bs = none ∧ e = .returned (.tuple #[backv Pl.back0, errv 4])) ∨ ∃ x, Pl.best (Pl.worth seed f) bs = some x ∧ e = .returned (.tuple #[backv x, .nilIface])

/-- What the loop of Pick has found in the first k servers. -/
def Cur (seed : Int) (f : Flow) (bs : List Pl.Back) (k : Nat) (b m : Value) : Prop :=
  (b = .int .i64 (-1) ∧ m = .int .i64 (-1) ∧ Pl.best (Pl.worth seed f) (bs.take k) = none) ∨
  ∃ j : Nat, j < k ∧ b = .int .i64 j ∧ m = .int .i64 (Pl.worth seed f (bs.getD j Pl.back0)) ∧ Pl.best (Pl.worth seed f) (bs.take k) = some (bs.getD j Pl.back0)
theorem best_next (seed : Int) (f : Flow) {bs : List Pl.Back} {k : Nat} (hk : k < bs.length) :
    Pl.best (Pl.worth seed f) (bs.take (k + 1)) = Pl.step (Pl.worth seed f) (Pl.best (Pl.worth seed f) (bs.take k)) (bs.getD k Pl.back0) := by
  rw [List.take_succ_eq_append_getElem hk, Pl.best_snoc]
  simp [List.getD, hk]
theorem Cur.skip {seed : Int} {f : Flow} {bs : List Pl.Back} {k : Nat} {b m : Value} (h : Cur seed f bs k b m) (hk : k < bs.length) (he : ¬ Pl.Elig (bs.getD k Pl.back0)) : Cur seed f bs (k + 1) b m := by
  have e := best_next seed f hk
  unfold Pl.step at e
  rw [if_neg he] at e
  rcases h with ⟨h1, h2, h3⟩ | ⟨j, hj, h1, h2, h3⟩
  · exact .inl ⟨h1, h2, e.trans h3⟩
  · exact .inr ⟨j, by omega, h1, h2, e.trans h3⟩
theorem Cur.first {seed : Int} {f : Flow} {bs : List Pl.Back} {k : Nat} (h : Pl.best (Pl.worth seed f) (bs.take k) = none) (hk : k < bs.length) (he : Pl.Elig (bs.getD k Pl.back0)) :
    Cur seed f bs (k + 1) (.int .i64 k) (.int .i64 (Pl.worth seed f (bs.getD k Pl.back0))) := by
  have e := best_next seed f hk
  unfold Pl.step at e
  rw [if_pos he, h] at e
  exact .inr ⟨k, by omega, rfl, rfl, e⟩
theorem Cur.better {seed : Int} {f : Flow} {bs : List Pl.Back} {k j : Nat} (h : Pl.best (Pl.worth seed f) (bs.take k) = some (bs.getD j Pl.back0)) (hk : k < bs.length) (he : Pl.Elig (bs.getD k Pl.back0)) (hb : Pl.Beats (Pl.worth seed f) (bs.getD j Pl.back0) (bs.getD k Pl.back0)) :
    Cur seed f bs (k + 1) (.int .i64 k) (.int .i64 (Pl.worth seed f (bs.getD k Pl.back0))) := by
  have e := best_next seed f hk
  unfold Pl.step at e
  rw [if_pos he, h] at e
  simp only [if_pos hb] at e
  exact .inr ⟨k, by omega, rfl, rfl, e⟩
theorem Cur.stay {seed : Int} {f : Flow} {bs : List Pl.Back} {k j : Nat} (h : Pl.best (Pl.worth seed f) (bs.take k) = some (bs.getD j Pl.back0)) (hj : j < k) (hk : k < bs.length) (he : Pl.Elig (bs.getD k Pl.back0)) (hb : ¬ Pl.Beats (Pl.worth seed f) (bs.getD j Pl.back0) (bs.getD k Pl.back0)) :
    Cur seed f bs (k + 1) (.int .i64 j) (.int .i64 (Pl.worth seed f (bs.getD j Pl.back0))) := by
  have e := best_next seed f hk
  unfold Pl.step at e
  rw [if_pos he, h] at e
  simp only [if_neg hb] at e
  exact .inr ⟨j, by omega, rfl, rfl, e⟩

end Go.Proofs.YtefdhlmljocnkaaDoor
