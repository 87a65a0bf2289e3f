/- Lemmas of this seat, bound together: Starts RowI RefB RefK RowL Ip4l Ref4p Ref4d Ref6d. Conditions: as each lemma states them. -/
import Derived.Test.YtbjogkpepfgegaaDoorK08
import Derived.Deep.DeepCutAuto
import Derived.Test.YtbjogkpepfgegaaDoorK10
import Derived.Test.YtbjogkpepfgegaaDoorK03
import Derived.Test.YtbjogkpepfgegaaDoorK11
import Derived.Test.YtbjogkpepfgegaaDoorK02
import Derived.Test.YtbjogkpepfgegaaDoorK01
import Derived.Maps.AppendAt
import Derived.Test.YtbjogkpepfgegaaDoorK15
import Derived.Test.YtbjogkpepfgegaaDoorK06
import Derived.Deep.RegionHeld3
import Derived.Test.YtbjogkpepfgegaaDoorK04
import Derived.Laws.Tables
import Derived.Test.YtbjogkpepfgegaaDoorK14
namespace Go.Proofs.YtbjogkpepfgegaaDoor
open Go.RowKit
theorem top_same (x y : Int) (b : Nat) (hb : b ≤ 16) (hx : 0 ≤ x ∧ x ≤ 65535) (hy : 0 ≤ y ∧ y ≤ 65535) :
    x / 2 ^ (16 - b) = y / 2 ^ (16 - b) ↔ ∀ r, r < b → x.toNat.testBit (15 - r) = y.toNat.testBit (15 - r) := by
  obtain ⟨a, rfl⟩ := Int.eq_ofNat_of_zero_le hx.1
  obtain ⟨c, rfl⟩ := Int.eq_ofNat_of_zero_le hy.1
  rw [Int.toNat_natCast, Int.toNat_natCast]
  have e1 : ((a : Int) / 2 ^ (16 - b)) = ((a / 2 ^ (16 - b) : Nat) : Int) := by push_cast; rfl
  have e2 : ((c : Int) / 2 ^ (16 - b)) = ((c / 2 ^ (16 - b) : Nat) : Int) := by push_cast; rfl
  rw [e1, e2]
  have ha : a < 2 ^ 16 := by omega
  have hc : c < 2 ^ 16 := by omega
  constructor
  · intro h r hr
    have h : a / 2 ^ (16 - b) = c / 2 ^ (16 - b) := Int.ofNat.inj h
    have := congrArg (fun z => z.testBit (15 - r - (16 - b))) h
    simp only [Nat.testBit_div_two_pow] at this
    rwa [show 15 - r - (16 - b) + (16 - b) = 15 - r by omega] at this
  · intro h
    refine congrArg Int.ofNat (Nat.eq_of_testBit_eq fun i => ?_)
    rw [Nat.testBit_div_two_pow, Nat.testBit_div_two_pow]
    by_cases hi : i + (16 - b) < 16
    · have := h (15 - (i + (16 - b))) (by omega)
      rwa [show 15 - (15 - (i + (16 - b))) = i + (16 - b) by omega] at this
    · rw [Nat.testBit_lt_two_pow (Nat.lt_of_lt_of_le ha (Nat.pow_le_pow_right (by decide) (by omega))), Nat.testBit_lt_two_pow (Nat.lt_of_lt_of_le hc (Nat.pow_le_pow_right (by decide) (by omega)))]
/-- How many bits of a number are asked for. -/
def bitsOf (N k : Nat) : Nat := min 16 (N - 16 * k)
theorem bits_step {a p : Six} {N k : Nat} (h : ∀ i, i < N → i < 16 * k → Pl.bitAt a i = Pl.bitAt p i)
    (ht : ∀ r, r < bitsOf N k → (a.l.getD k 0).toNat.testBit (15 - r) = (p.l.getD k 0).toNat.testBit (15 - r)) : ∀ i, i < N → i < 16 * (k + 1) → Pl.bitAt a i = Pl.bitAt p i := fun i hi hik => by
  by_cases h16 : i < 16 * k
  · exact h i hi h16
  · have e1 : i / 16 = k := by omega
    have := ht (i % 16) (by unfold bitsOf; omega)
    unfold Pl.bitAt
    rw [e1]
    exact this
theorem bits_no {a p : Six} {N k : Nat} (h : Pl.inB a p N = true) : ∀ r, r < bitsOf N k → (a.l.getD k 0).toNat.testBit (15 - r) = (p.l.getD k 0).toNat.testBit (15 - r) := fun r hr => by
  have hr' : r < 16 ∧ 16 * k + r < N := by unfold bitsOf at hr; omega
  have := (Pl.inB_iff.1 h) (16 * k + r) hr'.2
  unfold Pl.bitAt at this
  rwa [show (16 * k + r) / 16 = k by omega, show (16 * k + r) % 16 = r by omega] at this
end Go.Proofs.YtbjogkpepfgegaaDoor
namespace Go.Proofs.YtbjogkpepfgegaaDoor
open Go.RowKit
/-- Numbers in cells. -/
def KI : Kin Int := ⟨fun x => [.int .i64 x], 1, by decide, fun _ => rfl, fun _ u hu => by rw [List.mem_singleton.1 hu]; rfl⟩
theorem Ints.see {w : World} {a : Option Addr} {n : Nat} {xs : List Int} (h : Ints .i64 w a n xs) : KI.See w a n xs := by
  refine ⟨h.len, ?_⟩
  rcases h.2 with h0 | ⟨b, off, rfl, hc⟩
  · exact .inl h0
  · refine .inr ⟨b, off, rfl, fun i x hx r u hu => ?_⟩
    obtain ⟨hi, rfl⟩ := List.getElem?_eq_some_iff.1 hx
    have hr : r = 0 := by have := (List.getElem?_eq_some_iff.1 hu).1; simp [KI] at this; exact this
    subst hr
    have := hc i (by rw [← h.len]; exact hi)
    simp [KI] at hu
    rw [← hu]
    simpa [KI, List.getD, hi] using this
theorem Kin.See.ints {w : World} {a : Option Addr} {n : Nat} {xs : List Int} (h : KI.See w a n xs) : Ints .i64 w a n xs := by
  refine ⟨h.1, ?_⟩
  rcases h.2 with h0 | ⟨b, off, rfl, hc⟩
  · exact .inl h0
  · refine .inr ⟨b, off, rfl, fun i hi => ?_⟩
    have hl : i < xs.length := by rw [h.1]; exact hi
    have := hc i xs[i] (List.getElem?_eq_getElem hl) 0 (.int .i64 xs[i]) rfl
    simpa [KI, List.getD, hl] using this
theorem Tryd.infoInt : (Tryd.prog.info? 3).map (fun i => (i.zero, i.size, i.bytes)) = some (some (.int .i64 0), 1, 8) := by kernel_rfl
theorem appI {w : World} {ops : Array Oper} {rest : List Oper} {o : Oper} {a : Act} {Q : Exit → Act → World → Prop} (hgd : o.guard = none) (s x : Operand)
    (ho : o.op = .call { callee := .builtin .append, args := #[s, x], argTypes := #[160, 160] })
    (B : Nat) (v : Value) (ys : List Int) (hs : a.eval s = v) (hown : KI.Own 3 w B v ys) (ao : Option Addr) (m c : Nat) (xs : List Int) (hx : a.eval x = .slice ao m c) (hr : Ints .i64 w ao m xs)
    (hmax : ys.length + m ≤ 1073741824) (hbase : B ≤ w.heap.size)
    (h : ∀ v' w', KI.Own 3 w' B v' (ys ++ xs) → w.grownBy w' v.ownBlock → Below B w w' → wpList Tryd.prog ops Q rest (a.put o.dst v') w') : wpList Tryd.prog ops Q (o :: rest) a w :=
  appK KI 160 3 (.int .i64 0) 8 Tryd.underlying160 Tryd.infoInt rfl (by decide) hgd s x ho B v ys hs hown ao m c xs hx hr.see hmax hbase h
theorem Blk.ints1 {w : World} {g : Nat} {t : TypeId} {x : Int} (h : Blk w g t #[.int .i64 x]) : Ints .i64 w (some ⟨g, 0, none⟩) 1 [x] := h.ints rfl fun i hi => by
  obtain rfl : i = 0 := by omega
  rfl
theorem Blk.ints2 {w : World} {g : Nat} {t : TypeId} {x y : Int} (h : Blk w g t #[.int .i64 x, .int .i64 y]) : Ints .i64 w (some ⟨g, 0, none⟩) 2 [x, y] := h.ints rfl fun i hi => by
  have : i = 0 ∨ i = 1 := by omega
  rcases this with rfl | rfl <;> rfl
end Go.Proofs.YtbjogkpepfgegaaDoor
namespace Go.Proofs.YtbjogkpepfgegaaDoor
open Go.RowKit
/-- May a flow be, as the document asks. -/
def okF (f : Flow) : Bool := (decide (f.kind = 6) || decide (f.kind = 17)) && words f.client.l && words f.dst.l && w16 f.port && w16 f.door
theorem w16_iff {n : Int} : w16 n = true ↔ 0 ≤ n ∧ n ≤ 65535 := by unfold w16; simp
theorem okF_iff {f : Flow} : okF f = true ↔ f.Ok := by
  unfold okF Flow.Ok Six.Ok
  simp only [Bool.and_eq_true, Bool.or_eq_true, decide_eq_true_eq, w16_iff]
  constructor
  · rintro ⟨⟨⟨⟨h1, h2⟩, h3⟩, h4⟩, h5⟩
    exact ⟨h1, h2, h3, h4, h5⟩
  · rintro ⟨h1, h2, h3, h4, h5⟩
    exact ⟨⟨⟨⟨h1, h2⟩, h3⟩, h4⟩, h5⟩
/-- The fault of a flow. -/
def flowE (f : Flow) : Int := if okF f = true then 0 else 1
/-- The fault of a score. -/
def okSc (seed : Int) (f : Flow) (id : Int) : Bool := decide (0 ≤ seed) && decide (seed ≤ 2147483647) && w16 id && okF f
theorem okSc_iff {seed : Int} {f : Flow} {id : Int} : okSc seed f id = true ↔ (0 ≤ seed ∧ seed < 2147483648) ∧ (0 ≤ id ∧ id ≤ 65535) ∧ f.Ok := by
  unfold okSc
  simp only [Bool.and_eq_true, decide_eq_true_eq, w16_iff, okF_iff]
  constructor
  · rintro ⟨⟨⟨h1, h2⟩, h3⟩, h4⟩; exact ⟨⟨h1, by omega⟩, h3, h4⟩
  · rintro ⟨⟨h1, h2⟩, h3, h4⟩; exact ⟨⟨⟨h1, by omega⟩, h3⟩, h4⟩
end Go.Proofs.YtbjogkpepfgegaaDoor
namespace Go.Proofs.YtbjogkpepfgegaaDoor
open Go.RowKit
namespace Pl
/-- What is wrong with servers: the place told and the fault. -/
def PF (bs : List Back) (i q : Int) : Prop := if 8 < bs.length then i = 0 ∧ q = 3 else ∃ k : Nat, (∀ j, j < k → Fine bs j) ∧
  ((k = bs.length ∧ i = 0 ∧ q = 0) ∨ (k < bs.length ∧ ¬ (bs.getD k back0).Num ∧ i = k ∧ q = 1) ∨
    (k < bs.length ∧ (bs.getD k back0).Num ∧ (∃ m, m < k ∧ (bs.getD m back0).id = (bs.getD k back0).id) ∧ i = k ∧ q = 8))
theorem PF.one {bs : List Back} {i q i' q' : Int} (h : PF bs i q) (h' : PF bs i' q') : i = i' ∧ q = q' := by
  unfold PF at h h'
  split at h
  · rw [if_pos ‹_›] at h'
    exact ⟨h.1.trans h'.1.symm, h.2.trans h'.2.symm⟩
  · rw [if_neg ‹_›] at h'
    obtain ⟨k, hk, hc⟩ := h
    obtain ⟨k', hk', hc'⟩ := h'
    have bad : ∀ j, ¬ Fine bs j → (∀ m, m < j → Fine bs m) → ∀ j', (∀ m, m < j' → Fine bs m) → j' ≤ j := fun j hj _ j' hj' => by
      rcases Nat.lt_or_ge j j' with h | h
      · exact absurd (hj' j h) hj
      · exact h
    rcases hc with ⟨h1, h2, h3⟩ | ⟨h1, h2, h3, h4⟩ | ⟨h1, h2, ⟨m, hm, he⟩, h3, h4⟩
    · have hno : ¬ k' < k := fun hh => by
        have := hk k' hh
        rcases hc' with ⟨g1, _⟩ | ⟨g1, g2, _⟩ | ⟨g1, g2, ⟨m, hm, he⟩, _⟩
        · omega
        · exact g2 this.1
        · exact this.2 m hm he
      rcases hc' with ⟨g1, g2, g3⟩ | ⟨g1, _⟩ | ⟨g1, _⟩
      · exact ⟨h2.trans g2.symm, h3.trans g3.symm⟩
      · omega
      · omega
    · have nf : ¬ Fine bs k := fun hf => h2 hf.1
      have hle := bad k nf hk k' hk'
      rcases hc' with ⟨g1, g2, g3⟩ | ⟨g1, g2, g3, g4⟩ | ⟨g1, g2, ⟨m, hm, he⟩, g3, g4⟩
      · omega
      · have := bad k' (fun hf => g2 hf.1) hk' k hk
        obtain rfl : k = k' := by omega
        exact ⟨h3.trans g3.symm, h4.trans g4.symm⟩
      · have := bad k' (fun hf => hf.2 m hm he) hk' k hk
        obtain rfl : k = k' := by omega
        exact absurd g2 h2
    · have nf : ¬ Fine bs k := fun hf => hf.2 m hm he
      have hle := bad k nf hk k' hk'
      rcases hc' with ⟨g1, g2, g3⟩ | ⟨g1, g2, g3, g4⟩ | ⟨g1, g2, ⟨m', hm', he'⟩, g3, g4⟩
      · omega
      · have := bad k' (fun hf => g2 hf.1) hk' k hk
        obtain rfl : k = k' := by omega
        exact absurd h2 g2
      · have := bad k' (fun hf => hf.2 m' hm' he') hk' k hk
        obtain rfl : k = k' := by omega
        exact ⟨h3.trans g3.symm, h4.trans g4.symm⟩
theorem PF.ok {bs : List Back} {i q : Int} (h : PF bs i q) (hq : q = 0) : OkBacks bs := by
  subst hq
  unfold PF at h
  split at h
  · exact absurd h.2 (by decide)
  · obtain ⟨k, hk, hc⟩ := h
    rcases hc with ⟨h1, _⟩ | ⟨_, _, _, h⟩ | ⟨_, _, _, _, h⟩
    · exact ⟨by omega, fun j hj => hk j (by omega)⟩
    · cases h
    · cases h
theorem PF.bad {bs : List Back} {i q : Int} (h : PF bs i q) (hq : q ≠ 0) : ¬ OkBacks bs := fun ho => by
  unfold PF at h
  split at h
  · have := ho.1; omega
  · obtain ⟨k, hk, hc⟩ := h
    rcases hc with ⟨_, _, h⟩ | ⟨h1, h2, _⟩ | ⟨h1, _, ⟨m, hm, he⟩, _⟩
    · exact hq h
    · exact h2 (ho.2 k h1).1
    · exact (ho.2 k h1).2 m hm he
end Pl
theorem pcheck_all (a : Option Addr) (n c : Nat) (bs : List Pl.Back) (w : World) (hb : Backs w a n bs) (hnc : n ≤ c) :
    Calls Tryd.prog 50 #[.slice a n c] w fun e w' => (∃ i q : Int, Pl.PF bs i q ∧ e = .returned (.tuple #[.int .i64 i, erv q])) ∧ Ext w w' := by
  by_cases h8 : n ≤ 8
  · refine (pcheck_any a n c bs w hb h8 hnc).mono fun e w' ⟨⟨i, hi, hc⟩, hE⟩ => ⟨?_, hE⟩
    have hl : ¬ 8 < bs.length := by rw [hb.1]; omega
    rcases hc with ⟨h0, he⟩ | ⟨h1, h2, he⟩ | ⟨h1, h2, h3, he⟩
    · exact ⟨0, 0, by unfold Pl.PF; rw [if_neg hl]; exact ⟨i, hi, .inl ⟨h0, rfl, rfl⟩⟩, he⟩
    · exact ⟨i, 1, by unfold Pl.PF; rw [if_neg hl]; exact ⟨i, hi, .inr (.inl ⟨h1, h2, rfl, rfl⟩)⟩, he⟩
    · exact ⟨i, 8, by unfold Pl.PF; rw [if_neg hl]; exact ⟨i, hi, .inr (.inr ⟨h1, h2, h3, rfl, rfl⟩)⟩, he⟩
  · refine (pcheck_full a n c w (by omega)).mono fun e w' ⟨he, hE⟩ => ⟨⟨0, 3, ?_, he⟩, hE⟩
    unfold Pl.PF
    rw [if_pos (by rw [hb.1]; omega)]
    exact ⟨rfl, rfl⟩
/-- May a server's numbers be. -/
def bN (b : Pl.Back) : Bool := w16 b.id && w16 b.door && w32 b.addr && decide (0 ≤ b.weight) && decide (b.weight ≤ 10)
theorem bN_iff {b : Pl.Back} : bN b = true ↔ b.Num := by
  unfold bN Pl.Back.Num w32
  simp only [Bool.and_eq_true, decide_eq_true_eq, w16_iff]
  constructor
  · rintro ⟨⟨⟨⟨h1, h2⟩, h3⟩, h4⟩, h5⟩
    exact ⟨h1, h2, ⟨h3.1, by omega⟩, h4, h5⟩
  · rintro ⟨h1, h2, h3, h4, h5⟩
    exact ⟨⟨⟨⟨h1, h2⟩, h3.1, by omega⟩, h4⟩, h5⟩
end Go.Proofs.YtbjogkpepfgegaaDoor
namespace Go.Proofs.YtbjogkpepfgegaaDoor
open Go.RowKit
/-- append to what the call owns: at the operation, with where the outcome lies. -/
theorem wp_appKL {α : Type} (K : Kin α) (sl t : TypeId) (z : Value) (bz : Nat) (hU : Tryd.prog.underlying sl = some (.slice t)) (hI : (Tryd.prog.info? t).map (fun i => (i.zero, i.size, i.bytes)) = some (some z, K.sz, bz))
    (hz : z.cells.size = K.sz) (hby : bz ≤ 65536) {w : World} {o : Oper} {a : Act} {N : Act → World → Prop} {Q : Exit → Act → World → Prop} (s x : Operand)
    (ho : o.op = .call { callee := .builtin .append, args := #[s, x], argTypes := #[sl, sl] })
    (B : Nat) (v : Value) (ys : List α) (hs : a.eval s = v) (hown : K.Own t w B v ys) (ao : Option Addr) (m c : Nat) (xs : List α) (hx : a.eval x = .slice ao m c) (hr : K.See w ao m xs)
    (hmax : ys.length + m ≤ 1073741824) (hbase : B ≤ w.heap.size)
    (h : ∀ v' w', K.Own t w' B v' (ys ++ xs) → w.grownBy w' v.ownBlock → Below B w w' → (v'.ownBlock = v.ownBlock ∨ v'.ownBlock = some w.heap.size) → N (a.put o.dst v') w') : o.wp Tryd.prog a w N Q := by
  obtain ⟨i0, hi, hz0, hz1, hz2⟩ := info_parts hI
  have hl : (K.cells xs).length = m * K.sz := by rw [K.cells_length, hr.1]
  have hb : (ys.length + m) * bz ≤ 140737488355328 := Nat.le_trans (Nat.mul_le_mul hmax hby) (by decide)
  have at' : ∀ (ad : Addr) (news : List Value), a.eval x = .slice (some ad) m c → news.length = m * K.sz → (∀ j u, news[j]? = some u → w.cell? (ad.add j) = some u) → (∀ u ∈ news, u.oneCell' = true) → news = K.cells xs → o.wp Tryd.prog a w N Q := by
    intro ad news hx hnl hnews h1 hne
    obtain ⟨v', w', hr', h2, h3, _, h5⟩ := run_append_own_at (P := Tryd.prog) w B sl o.type t i0 z K.sz bz hU hi hz0 hz1 hz2 hz K.pos v _ (K.cells ys) hown ad m c news hnl hnews h1 (by unfold maxLen; omega) hb hbase
    unfold Oper.wp execOp
    simp only [ho, resolve, invoke, builtin, Sem.run_bind, Sem.run_pure, Result.andThen_ok, List.map_toArray, List.map_cons, List.map_nil, hs, hx, hr']
    refine h v' w' ?_ h3 ((Below.refl B w).grown h3 hbase fun k hk => (hown.lt k hk).1) h5
    unfold Kin.Own
    rw [List.length_append, hr.1, ← K.cells_append, ← hne]
    exact h2
  rcases hr.2 with h0 | ⟨b, off, rfl, hc⟩
  · subst h0
    obtain rfl : xs = [] := List.length_eq_zero_iff.1 hr.1
    cases ao with
    | none =>
      refine wp_append_own_none0 s x _ ho B _ i0 K.sz hU hi v _ (K.cells ys) c hs hown hx (h v w ?_ (World.grownBy.refl _ _) (Below.refl B w) (.inl rfl))
      simpa using hown
    | some ad => exact at' ad [] hx (by simp) (fun _ _ h => by simp at h) (fun _ h => by cases h) rfl
  · refine at' ⟨b, off, none⟩ (K.cells xs) hx hl ?_ (K.cells_one xs) rfl
    intro j u hj
    have hlt : j < m * K.sz := by have := (List.getElem?_eq_some_iff.1 hj).1; omega
    have hi6 : j / K.sz < xs.length := by rw [hr.1]; exact (Nat.div_lt_iff_lt_mul K.pos).2 hlt
    have hmod := Nat.mod_lt j K.pos
    have hdm : j / K.sz * K.sz + j % K.sz = j := by rw [Nat.mul_comm]; exact Nat.div_add_mod j K.sz
    have hat := K.cells_at xs (j / K.sz) (j % K.sz) _ (List.getElem?_eq_getElem hi6) hmod
    rw [hdm, hj] at hat
    have := hc (j / K.sz) _ (List.getElem?_eq_getElem hi6) (j % K.sz) u hat.symm
    rw [Addr.add_lit]
    rwa [Nat.add_assoc, hdm] at this
theorem appKL {α : Type} (K : Kin α) (sl t : TypeId) (z : Value) (bz : Nat) (hU : Tryd.prog.underlying sl = some (.slice t)) (hI : (Tryd.prog.info? t).map (fun i => (i.zero, i.size, i.bytes)) = some (some z, K.sz, bz))
    (hz : z.cells.size = K.sz) (hby : bz ≤ 65536) {w : World} {ops : Array Oper} {rest : List Oper} {o : Oper} {a : Act} {Q : Exit → Act → World → Prop} (hgd : o.guard = none) (s x : Operand)
    (ho : o.op = .call { callee := .builtin .append, args := #[s, x], argTypes := #[sl, sl] })
    (B : Nat) (v : Value) (ys : List α) (hs : a.eval s = v) (hown : K.Own t w B v ys) (ao : Option Addr) (m c : Nat) (xs : List α) (hx : a.eval x = .slice ao m c) (hr : K.See w ao m xs)
    (hmax : ys.length + m ≤ 1073741824) (hbase : B ≤ w.heap.size)
    (h : ∀ v' w', K.Own t w' B v' (ys ++ xs) → w.grownBy w' v.ownBlock → Below B w w' → (v'.ownBlock = v.ownBlock ∨ v'.ownBlock = some w.heap.size) → wpList Tryd.prog ops Q rest (a.put o.dst v') w') : wpList Tryd.prog ops Q (o :: rest) a w :=
  wpList_plain hgd fun _ hK => wp_appKL K sl t z bz hU hI hz hby s x ho B v ys hs hown ao m c xs hx hr hmax hbase fun v' w' h1 h2 h3 h4 => hK _ _ (h v' w' h1 h2 h3 h4)
/-- x[k:] of a row. -/
theorem tailK {α : Type} (K : Kin α) (sl t : TypeId) (hE : Tryd.prog.elem sl = t) (hU : Tryd.prog.underlying sl = some (.slice t)) (hS : ∀ w : World, (sizeOf t).run Tryd.prog w = .ok K.sz w) (a : Option Addr) (n c k : Nat) (i : Int) (hi : i = k) (hk : k ≤ n) (hnc : n ≤ c) :
    ∃ AA : Option Addr, (∀ (w : World) (xs : List α), K.See w a n xs → K.See w AA (n - k) (xs.drop k)) ∧
      ∀ W : World, (Instr.slice sl (.slice a n c) (some (.int .i64 i)) none none).run Tryd.prog W = .ok (.slice AA (n - k) (c - k)) W := by
  subst hi
  refine ⟨if c = k then a else a.map (·.add (k * K.sz)), fun w xs h => ?_, fun W => ?_⟩
  · by_cases hz : n - k = 0
    · exact ⟨by rw [List.length_drop, h.1], .inl hz⟩
    · rcases h.2 with h0 | ⟨b, off, rfl, _⟩
      · omega
      · rw [if_neg (by omega), Option.map_some, Addr.add_mid]
        exact h.drop k
  · rw [run_slice_l W sl a n c (by rw [hE]; exact hU) .i64 (k : Int) (by omega) (by omega), hE, hS]
    simp only [Result.andThen_ok, sliced, Int.toNat_natCast]
/-- x[:k] of a row. -/
theorem headK {α : Type} (K : Kin α) (sl t : TypeId) (hE : Tryd.prog.elem sl = t) (hU : Tryd.prog.underlying sl = some (.slice t)) (hS : ∀ w : World, (sizeOf t).run Tryd.prog w = .ok K.sz w) (b off n c k : Nat) (i : Int) (hi : i = k) (hk : k ≤ c) :
    ∀ W : World, (Instr.slice sl (.slice (some ⟨b, off, none⟩) n c) none (some (.int .i64 i)) none).run Tryd.prog W = .ok (.slice (some ⟨b, off, none⟩) k c) W := by
  subst hi
  intro W
  rw [run_slice_h W sl (some ⟨b, off, none⟩) n c (by rw [hE]; exact hU) .i64 (k : Int) (by omega) (by omega), hE, hS]
  simp only [Result.andThen_ok, sliced, Int.toNat_natCast, Nat.sub_zero, Nat.zero_mul, Option.map_some, Addr.add_mid, Nat.add_zero]
  by_cases hc : c = 0
  · rw [if_pos hc]
  · rw [if_neg hc]
/-- Addresses in cells. -/
def KS : Kin Six := ⟨fun s => s.cells.toList, 8, by decide, fun _ => rfl, fun s u hu => by
  have h : s.cells.all (·.oneCell') = true := by simp [Six.cells, Value.oneCell']
  exact (Array.all_eq_true_iff_forall_mem.1 h) u (by simpa using hu)⟩
theorem Tryd.elemInts : Tryd.prog.elem 160 = 3 := by kernel_rfl
theorem Tryd.sizeIntK : ∀ w : World, (sizeOf 3).run Tryd.prog w = .ok KI.sz w := fun w => by kernel_rfl
theorem Tryd.sizeSixK : ∀ w : World, (sizeOf 23).run Tryd.prog w = .ok KS.sz w := fun w => by kernel_rfl
theorem Tryd.infoSix : (Tryd.prog.info? 23).map (fun i => (i.zero, i.size, i.bytes)) = some (some (.agg #[.int .i64 0, .int .i64 0, .int .i64 0, .int .i64 0, .int .i64 0, .int .i64 0, .int .i64 0, .int .i64 0]), 8, 64) := by kernel_rfl
theorem appIL {w : World} {ops : Array Oper} {rest : List Oper} {o : Oper} {a : Act} {Q : Exit → Act → World → Prop} (hgd : o.guard = none) (s x : Operand)
    (ho : o.op = .call { callee := .builtin .append, args := #[s, x], argTypes := #[160, 160] })
    (B : Nat) (v : Value) (ys : List Int) (hs : a.eval s = v) (hown : KI.Own 3 w B v ys) (ao : Option Addr) (m c : Nat) (xs : List Int) (hx : a.eval x = .slice ao m c) (hr : KI.See w ao m xs)
    (hmax : ys.length + m ≤ 1073741824) (hbase : B ≤ w.heap.size)
    (h : ∀ v' w', KI.Own 3 w' B v' (ys ++ xs) → w.grownBy w' v.ownBlock → Below B w w' → (v'.ownBlock = v.ownBlock ∨ v'.ownBlock = some w.heap.size) → wpList Tryd.prog ops Q rest (a.put o.dst v') w') : wpList Tryd.prog ops Q (o :: rest) a w :=
  appKL KI 160 3 (.int .i64 0) 8 Tryd.underlying160 Tryd.infoInt rfl (by decide) hgd s x ho B v ys hs hown ao m c xs hx hr hmax hbase h
theorem Blk.sixes1 {w : World} {g : Nat} {t : TypeId} {s : Six} (h : Blk w g t s.cells) : KS.See w (some ⟨g, 0, none⟩) 1 [s] := Kin.See.blk h (by simp [Kin.cells, KS])
/-- An address of a row, read whole. -/
theorem Kin.See.six {w : World} {b off n : Nat} {xs : List Six} (h : KS.See w (some ⟨b, off, none⟩) n xs) {i : Nat} {s : Six} (hi : xs[i]? = some s) :
    (Instr.loadAt 23 (.pointer (some ⟨b, off + i * 8, none⟩))).run Tryd.prog w = .ok (.agg s.cells) w := by
  have hn : 0 < n := by
    have := (List.getElem?_eq_some_iff.1 hi).1
    rw [h.1] at this
    omega
  rcases h.2 with h0 | ⟨b', off', hb, hc⟩
  · omega
  · cases hb
    have := run_loadAt_mid (P := Tryd.prog) w b (off + i * 8) 23 s.cells.toList _ (fun j v hv => hc i s hi j v hv) Tryd.underlying23 rfl Tryd.size6
    rw [Array.toArray_toList] at this
    exact this
end Go.Proofs.YtbjogkpepfgegaaDoor
namespace Go.Proofs.YtbjogkpepfgegaaDoor
open Go.RowKit

namespace Pl
/-- Are bytes a packet? -/
def IsPk4 (xs : List Int) : Prop := ∃ s d t k i b, Ok4 s d t k i ∧ IsB b ∧ b.length ≤ 320 ∧ xs = enc4 s d t k i b

theorem raw_head4 (s d t k i n c : Int) : raw 0 (head4 s d t k i n c) = raw 0 (head4 s d t k i n 0) + c := by
  simp [head4, first4, four, raw]
  omega
theorem take_enc4 (s d t k i : Int) (b : List Int) : (enc4 s d t k i b).take 20 = head4 s d t k i b.length (sum4 s d t k i b.length) := by
  unfold enc4
  rw [List.take_append_of_le_length (by rw [head4_length]; omega)]
  exact List.take_of_length_le (by rw [head4_length]; omega)
theorem sum_enc4 {s d t k i : Int} {b : List Int} (h : Ok4 s d t k i) (hn : b.length ≤ 320) : fold (raw 0 ((enc4 s d t k i b).take 20)) = 65535 := by
  rw [take_enc4, raw_head4]
  unfold sum4
  exact fold_check (raw_bd (head4_isB h (by omega) (by omega)) 0).1
theorem drop_enc4 (s d t k i : Int) (b : List Int) : (enc4 s d t k i b).drop 20 = b := by
  unfold enc4
  rw [List.drop_append_of_le_length (by rw [head4_length]; omega), List.drop_of_length_le (by rw [head4_length]; omega)]
  rfl
theorem fields_enc4 {s d t k i : Int} {b : List Int} (h : Ok4 s d t k i) :
    at4 (enc4 s d t k i b) 12 = s ∧ at4 (enc4 s d t k i b) 16 = d ∧ (enc4 s d t k i b).getD 8 0 = t ∧ (enc4 s d t k i b).getD 9 0 = k ∧ at2 (enc4 s d t k i b) 4 = i := by
  obtain ⟨⟨s0, s1⟩, ⟨d0, d1⟩, ⟨t0, t1⟩, ⟨k0, k1⟩, ⟨i0, i1⟩⟩ := h
  unfold enc4 head4 first4 four at4 at2
  simp only [List.cons_append, List.nil_append, List.getD_cons_succ, List.getD_cons_zero]
  refine ⟨by omega, by omega, trivial, trivial, by omega⟩
theorem enc4_inj {s d t k i s' d' t' k' i' : Int} {b b' : List Int} (h : Ok4 s d t k i) (h' : Ok4 s' d' t' k' i') (he : enc4 s d t k i b = enc4 s' d' t' k' i' b') : s = s' ∧ d = d' ∧ t = t' ∧ k = k' ∧ i = i' ∧ b = b' := by
  obtain ⟨e0, e1, e2, e3, e4⟩ := fields_enc4 (b := b) h
  obtain ⟨f0, f1, f2, f3, f4⟩ := fields_enc4 (b := b') h'
  have e5 := drop_enc4 s d t k i b
  rw [he] at e0 e1 e2 e3 e4 e5
  exact ⟨e0.symm.trans f0, e1.symm.trans f1, e2.symm.trans f2, e3.symm.trans f3, e4.symm.trans f4, e5.symm.trans (drop_enc4 ..)⟩
/-- The packet that bytes are is that of their own numbers. -/
theorem pk4_iff {xs : List Int} (hb : IsB xs) (hn : xs.length ≤ 340) : IsPk4 xs ↔ enc4 (at4 xs 12) (at4 xs 16) (xs.getD 8 0) (xs.getD 9 0) (at2 xs 4) (xs.drop 20) = xs := by
  constructor
  · rintro ⟨s, d, t, k, i, b, hok, hbb, hl, rfl⟩
    obtain ⟨e0, e1, e2, e3, e4⟩ := fields_enc4 (b := b) hok
    rw [e0, e1, e2, e3, e4, drop_enc4]
  · intro h
    exact ⟨_, _, _, _, _, _, ok4_of hb, hb.drop 20, by rw [List.length_drop]; omega, h.symm⟩
theorem pk4_len {xs : List Int} (h : IsPk4 xs) : 20 ≤ xs.length ∧ xs.length ≤ 340 := by
  obtain ⟨s, d, t, k, i, b, _, _, hl, rfl⟩ := h
  rw [enc4_length]
  omega
theorem pk4_isB {xs : List Int} (h : IsPk4 xs) : IsB xs := by
  obtain ⟨s, d, t, k, i, b, hok, hb, hl, rfl⟩ := h
  exact enc4_isB hok hb hl
theorem pk4_sum {xs : List Int} (h : IsPk4 xs) : fold (raw 0 (xs.take 20)) = 65535 := by
  obtain ⟨s, d, t, k, i, b, hok, _, hl, rfl⟩ := h
  exact sum_enc4 hok hl
/-- With a byte of the head turned by a power of two it is no packet. -/
theorem pk4_turn {xs : List Int} (h : IsPk4 xs) (j : Nat) (hj : j < 20) (y p : Int) (hp : 1 ≤ p ∧ p ≤ 128) (hy : y = xs.getD j 0 + p ∨ y = xs.getD j 0 - p) : ¬ IsPk4 (xs.set j y) := by
  intro h2
  have e1 := pk4_sum h
  have e2 := pk4_sum h2
  have hl := (pk4_len h).1
  rw [List.take_set] at e2
  rw [raw_set _ _ _ _ (by rw [List.length_take]; omega)] at e2
  have hg : (xs.take 20).getD j 0 = xs.getD j 0 := by simp [List.getD, hj]
  rw [hg] at e2
  generalize raw 0 (xs.take 20) = R at e1 e2
  generalize xs.getD j 0 = x at *
  unfold fold at e1 e2
  split at e1
  · omega
  · split at e2
    · omega
    · split at e2 <;> omega
end Pl

/-- Decode of whatever comes in. -/
theorem decode4_any (a : Option Addr) (n c : Nat) (xs : List Int) (w : World) (hr : Ints .u8 w a n xs) (hb : Pl.IsB xs) (hnc : n ≤ c) :
    Calls Tryd.prog 38 #[.slice a n c] w fun e w' =>
      ((∃ s d t k i b av nv cv, Pl.Ok4 s d t k i ∧ Pl.IsB b ∧ b.length ≤ 320 ∧ xs = Pl.enc4 s d t k i b ∧ e = .returned (.tuple #[pk4 s d t k i (.slice av nv cv), .nilIface]) ∧ Own w' w.heap.size (.slice av nv cv) b) ∨
        (¬ Pl.IsPk4 xs ∧ ∃ q, e = .returned (.tuple #[pk4 0 0 0 0 0 (.slice none 0 0), errv q]))) ∧ Below w.heap.size w w' := by
  by_cases h0 : n < 20 ∨ 340 < n
  · refine (decode4_short a n c w h0).mono fun e w' ⟨he, hw⟩ => ⟨.inr ⟨fun h => ?_, 5, he⟩, hw⟩
    have := Pl.pk4_len h
    have := hr.len
    omega
  · obtain ⟨b, off, rfl, hbl, _⟩ := hr.at (by omega)
    have hl := hr.len
    refine (decode4_core b off n c xs w _ _ _ _ _ _ hr hbl hnc (by omega) (by omega) (Pl.ok4_of hb) rfl rfl rfl rfl rfl rfl hb).mono fun e w' h => ?_
    obtain ⟨h1, h2, h3, h4⟩ := h
    have hiff := Pl.pk4_iff hb (by omega)
    refine ⟨?_, h4⟩
    by_cases hE : Pl.enc4 (Pl.at4 xs 12) (Pl.at4 xs 16) (xs.getD 8 0) (xs.getD 9 0) (Pl.at2 xs 4) (xs.drop 20) = xs
    · obtain ⟨v, he, ho⟩ := h1 hE
      obtain ⟨av, nv, cv, rfl, _, _⟩ := ho.read
      exact .inl ⟨_, _, _, _, _, _, av, nv, cv, Pl.ok4_of hb, hb.drop 20, by rw [List.length_drop]; omega, hE.symm, he, ho⟩
    · refine .inr ⟨fun h => hE (hiff.1 h), ?_⟩
      by_cases hP : Pl.patch4 (Pl.enc4 (Pl.at4 xs 12) (Pl.at4 xs 16) (xs.getD 8 0) (xs.getD 9 0) (Pl.at2 xs 4) (xs.drop 20)) xs = xs
      · exact ⟨6, h2 hE hP⟩
      · exact ⟨5, h3 hE hP⟩

/-- Decode of a packet's bytes. -/
theorem decode4_enc (a : Option Addr) (n c : Nat) (s d t k i : Int) (b : List Int) (w : World) (hr : Ints .u8 w a n (Pl.enc4 s d t k i b)) (h : Pl.Ok4 s d t k i) (hb : Pl.IsB b) (hl : b.length ≤ 320) (hnc : n ≤ c) :
    Calls Tryd.prog 38 #[.slice a n c] w fun e w' => ∃ av nv cv, e = .returned (.tuple #[pk4 s d t k i (.slice av nv cv), .nilIface]) ∧ Own w' w.heap.size (.slice av nv cv) b ∧ Below w.heap.size w w' := by
  refine (decode4_any a n c _ w hr (Pl.enc4_isB h hb hl) hnc).mono fun e w' h2 => ?_
  obtain ⟨⟨s', d', t', k', i', b', av, nv, cv, h', _, _, he, hr', ho⟩ | ⟨hn, _⟩, hw⟩ := h2
  · obtain ⟨rfl, rfl, rfl, rfl, rfl, rfl⟩ := Pl.enc4_inj h h' he
    exact ⟨av, nv, cv, hr', ho, hw⟩
  · exact absurd ⟨_, _, _, _, _, _, h, hb, hl, rfl⟩ hn

theorem encode4_bad (s d t k i : Int) (a : Option Addr) (n c : Nat) (w : World) (h : ¬ (Pl.Ok4 s d t k i ∧ n ≤ 320)) :
    Calls Tryd.prog 37 #[pk4 s d t k i (.slice a n c)] w fun e w' => (∃ q, e = .returned (.tuple #[.slice none 0 0, errv q])) ∧ Below w.heap.size w w' := by
  have key : ∀ w, Calls Tryd.prog 48 #[pk4 s d t k i (.slice a n c)] w fun e w' => (∃ q, e = .returned (errv q)) ∧ Below w.heap.size w w' := fun w => by
    by_cases hok : Pl.Ok4 s d t k i
    · exact (check4_full s d t k i a n c w hok (by have : ¬ n ≤ 320 := fun hn => h ⟨hok, hn⟩; omega)).mono fun e w' ⟨he, hw⟩ => ⟨⟨3, he⟩, hw⟩
    · exact (check4_range s d t k i a n c w hok).mono fun e w' ⟨he, hw⟩ => ⟨⟨1, he⟩, hw⟩
  clear h
  have KEY := Lib.hid key
  clear key
  unfold pk4
  go_enter Tryd.func37, Tryd.ntmps37
  go_wp2_with fail
  refine (KEY.out _).mono ?_
  rintro e W2 ⟨⟨q, rfl⟩, b2⟩
  unfold errv
  go_wp2_with fail
  go_ret2
  exact ⟨⟨q, rfl⟩, by
    have : Below w.heap.size w (w.alloc (.cells #[.int .i64 s, .int .i64 d, .int .i64 t, .int .i64 k, .int .i64 i, .slice a n c] 42)) := by go_grown
    exact this.trans (b2.mono this.size)⟩

end Go.Proofs.YtbjogkpepfgegaaDoor
namespace Go.Proofs.YtbjogkpepfgegaaDoor
open Go.RowKit
def ok4b (s d t k i : Int) : Bool := w32 s && w32 d && w8 t && w8 k && w16 i
theorem ok4b_yes {s d t k i : Int} (h : ok4b s d t k i = true) : Pl.Ok4 s d t k i := by
  unfold ok4b at h
  simp only [Bool.and_eq_true] at h
  exact ⟨w32_yes h.1.1.1.1, w32_yes h.1.1.1.2, w8_yes h.1.1.2, w8_yes h.1.2, w16_yes h.2⟩
theorem ok4b_no {s d t k i : Int} (h : ok4b s d t k i = false) : ¬ Pl.Ok4 s d t k i := by
  rintro ⟨⟨a0, a1⟩, ⟨b0, b1⟩, ⟨c0, c1⟩, ⟨d0, d1⟩, ⟨e0, e1⟩⟩
  have : ok4b s d t k i = true := by
    unfold ok4b w32 w8 w16
    simp only [Bool.and_eq_true, decide_eq_true_eq]
    omega
  rw [this] at h
  cases h
/-- What is wrong with a packet of n bytes. -/
def fault4 (s d t k i : Int) (n : Nat) : Int := if ok4b s d t k i = true then (if n ≤ 320 then 0 else 3) else 1

end Go.Proofs.YtbjogkpepfgegaaDoor
namespace Go.Proofs.YtbjogkpepfgegaaDoor
open Go.RowKit
theorem Ext.drawn4 {a b w : World} (h : Ext a b) (e : ∃ q, w = b.drewN q) : Ext a w ∧ Ext b w := by
  obtain ⟨q, rfl⟩ := e
  exact ⟨h.drewN q, (Ext.refl b).drewN q⟩
theorem Ext.drewN' {a b : World} (h : Ext a b) (q : Nat) : Ext a (b.drewN q) := h.drewN q
theorem Ext.drew' {a b : World} (h : Ext a b) : Ext a b.drew := h.drew
theorem Ext.alloc' {a b : World} (h : Ext a b) (o : Obj) : Ext a (b.alloc o) := h.alloc o
theorem drawn_size {b w : World} (e : ∃ q, w = b.drewN q) : w.heap.size = b.heap.size := by
  obtain ⟨q, rfl⟩ := e
  rfl
/-- At a store whose run is known, in a region. -/
theorem wp_store_by4 {P : Program} {o : Oper} {a : Act} {w : World} {K : Act → World → Prop} {Q : Exit → Act → World → Prop} (ty : TypeId) (x y : Operand) (ho : o.op = .store ty x y) (p : Addr) (hx : a.eval x = .pointer (some p)) {v : Value} {w' : World}
    (h : (Instr.storeAt ty (.pointer (some p)) v).run P w = .ok () w') (hy : a.eval y = v) (k : K (a.put o.dst undef) w') : Oper.wp P o a w K Q := by
  unfold Oper.wp execOp
  simp only [ho, hx, hy, Sem.run_bind, h, Result.andThen_ok, Sem.run_pure]
  exact k
theorem at_worldF {P : Program} {c : Code} {Q : Exit → Act → World → Prop} {a : Act} {W : World} (X : World → Prop) (h : X W) (k : ∀ W', X W' → c.wp P Q a W') : c.wp P Q a W := k W h
namespace Pl
/-- Have bytes a packet's shape? -/
def Shape4 (xs : List Int) : Prop := (20 ≤ xs.length ∧ xs.length ≤ 340) ∧ at2 xs 0 = 17664 ∧ at2 xs 2 = xs.length ∧ at2 xs 6 = 16384
end Pl
abbrev c4 (s d t k i : Int) (v : Value) : Array Value := #[.int .i64 s, .int .i64 d, .int .i64 t, .int .i64 k, .int .i64 i, v]
theorem Tryd.sizeP4 : (Tryd.prog.info? 42).map (·.size) = some 6 := by kernel_rfl
theorem Blk.p4 {w : World} {g : Nat} {t : TypeId} {s d tt k i : Int} {v : Value} (h : Blk w g t (c4 s d tt k i v)) : (Instr.loadAt 42 (.pointer (some ⟨g, 0, none⟩))).run Tryd.prog w = .ok (.agg (c4 s d tt k i v)) w := by
  have := run_loadAt_mid (P := Tryd.prog) w g 0 42 (c4 s d tt k i v).toList _ (fun j v hv => by
    rw [Array.getElem?_toList] at hv
    rw [h.cells, Nat.zero_add]; exact hv) Tryd.underlying42 rfl Tryd.sizeP4
  rw [Array.toArray_toList] at this
  exact this
theorem sto4 {w : World} {R : Nat} {ty : TypeId} {x0 x1 x2 x3 x4 : Int} {v0 : Value} (kb : Blk w R ty (c4 x0 x1 x2 x3 x4 v0)) (s d t k i : Int) (a : Option Addr) (n c : Nat) :
    (Instr.storeAt 42 (.pointer (some ⟨R, 0, none⟩)) (.agg #[.int .i64 s, .int .i64 d, .int .i64 t, .int .i64 k, .int .i64 i, .slice a n c])).run Tryd.prog w = .ok () (w.setRow R (c4 s d t k i (.slice a n c))) :=
  kb.store rfl Tryd.sizeP4 (by simp [Value.oneCell'])

end Go.Proofs.YtbjogkpepfgegaaDoor
namespace Go.Proofs.YtbjogkpepfgegaaDoor
open Go.RowKit
theorem Ext.drawn {a b w : World} (h : Ext a b) (e : ∃ q, w = b.drewN q) : Ext a w ∧ Ext b w := by
  obtain ⟨q, rfl⟩ := e
  exact ⟨h.drewN q, (Ext.refl b).drewN q⟩
theorem sto6l {w : World} {R : Nat} (k : Blk w R 47 #[.int .i64 0, .int .i64 0, .int .i64 0, .int .i64 0, .int .i64 0, .int .i64 0, .int .i64 0, .int .i64 0, .int .i64 0, .int .i64 0, .int .i64 0, .int .i64 0, .int .i64 0, .int .i64 0, .int .i64 0, .int .i64 0, .int .i64 0, .int .i64 0, .slice none 0 0]) (p : P6) (a : Option Addr) (n c : Nat) :
    (Instr.storeAt 47 (.pointer (some ⟨R, 0, none⟩)) (.agg (p.cells (.slice a n c)))).run Tryd.prog w = .ok () (w.setRow R (p.cells (.slice a n c))) := k.store rfl Tryd.sizeP6 (p.one a n c)

/-- What Decoded6 gives of bytes that are no packet. -/
def RBad6 (e : Ending) : Prop := e = .returned (.tuple #[.agg #[.int .i64 0, .int .i64 0, .int .i64 0, .int .i64 0, .int .i64 0, .int .i64 0, .int .i64 0, .int .i64 0, .int .i64 0, .int .i64 0, .int .i64 0, .int .i64 0, .int .i64 0, .int .i64 0, .int .i64 0, .int .i64 0, .int .i64 0, .int .i64 0, .slice none 0 0], .int .i64 5])

end Go.Proofs.YtbjogkpepfgegaaDoor
