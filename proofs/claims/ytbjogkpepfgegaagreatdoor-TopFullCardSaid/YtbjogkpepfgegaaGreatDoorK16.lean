/- Lemmas of this seat, bound together: Starts Emb5 RefE RowI RefB RefK RowL Told Same Over Over4. Conditions: as each lemma states them. -/
import Derived.Test.YtbjogkpepfgegaaGreatDoorK07
import Derived.Deep.DeepCutAuto
import Derived.Test.YtbjogkpepfgegaaGreatDoorK08
import Derived.Test.YtbjogkpepfgegaaGreatDoorK03
import Derived.Test.YtbjogkpepfgegaaGreatDoorK09
import Derived.Test.YtbjogkpepfgegaaGreatDoorK10
import Derived.Test.YtbjogkpepfgegaaGreatDoorK02
import Derived.Test.YtbjogkpepfgegaaGreatDoorK01
import Derived.Maps.AppendAt
import Derived.Test.YtbjogkpepfgegaaGreatDoorK14
import Derived.Test.YtbjogkpepfgegaaGreatDoorK00
import Derived.Test.YtbjogkpepfgegaaGreatDoorK05
namespace Go.Proofs.YtbjogkpepfgegaaGreatDoor
open Go.RowKit
theorem top_same (x y : Int) (b : Nat) (hb : b ≤ 16) (hx : 0 ≤ x ∧ x ≤ 65535) (hy : 0 ≤ y ∧ y ≤ 65535) :
    x / 2 ^ (16 - b) = y / 2 ^ (16 - b) ↔ ∀ r, r < b → x.toNat.testBit (15 - r) = y.toNat.testBit (15 - r) := by
  obtain ⟨a, rfl⟩ := Int.eq_ofNat_of_zero_le hx.1
  obtain ⟨c, rfl⟩ := Int.eq_ofNat_of_zero_le hy.1
  rw [Int.toNat_natCast, Int.toNat_natCast]
  have e1 : ((a : Int) / 2 ^ (16 - b)) = ((a / 2 ^ (16 - b) : Nat) : Int) := by push_cast; rfl
  have e2 : ((c : Int) / 2 ^ (16 - b)) = ((c / 2 ^ (16 - b) : Nat) : Int) := by push_cast; rfl
  rw [e1, e2]
  have ha : a < 2 ^ 16 := by omega
  have hc : c < 2 ^ 16 := by omega
  constructor
  · intro h r hr
    have h : a / 2 ^ (16 - b) = c / 2 ^ (16 - b) := Int.ofNat.inj h
    have := congrArg (fun z => z.testBit (15 - r - (16 - b))) h
    simp only [Nat.testBit_div_two_pow] at this
    rwa [show 15 - r - (16 - b) + (16 - b) = 15 - r by omega] at this
  · intro h
    refine congrArg Int.ofNat (Nat.eq_of_testBit_eq fun i => ?_)
    rw [Nat.testBit_div_two_pow, Nat.testBit_div_two_pow]
    by_cases hi : i + (16 - b) < 16
    · have := h (15 - (i + (16 - b))) (by omega)
      rwa [show 15 - (15 - (i + (16 - b))) = i + (16 - b) by omega] at this
    · rw [Nat.testBit_lt_two_pow (Nat.lt_of_lt_of_le ha (Nat.pow_le_pow_right (by decide) (by omega))), Nat.testBit_lt_two_pow (Nat.lt_of_lt_of_le hc (Nat.pow_le_pow_right (by decide) (by omega)))]
/-- How many bits of a number are asked for. -/
def bitsOf (N k : Nat) : Nat := min 16 (N - 16 * k)
theorem bits_step {a p : Six} {N k : Nat} (h : ∀ i, i < N → i < 16 * k → Pl.bitAt a i = Pl.bitAt p i)
    (ht : ∀ r, r < bitsOf N k → (a.l.getD k 0).toNat.testBit (15 - r) = (p.l.getD k 0).toNat.testBit (15 - r)) : ∀ i, i < N → i < 16 * (k + 1) → Pl.bitAt a i = Pl.bitAt p i := fun i hi hik => by
  by_cases h16 : i < 16 * k
  · exact h i hi h16
  · have e1 : i / 16 = k := by omega
    have := ht (i % 16) (by unfold bitsOf; omega)
    unfold Pl.bitAt
    rw [e1]
    exact this
theorem bits_no {a p : Six} {N k : Nat} (h : Pl.inB a p N = true) : ∀ r, r < bitsOf N k → (a.l.getD k 0).toNat.testBit (15 - r) = (p.l.getD k 0).toNat.testBit (15 - r) := fun r hr => by
  have hr' : r < 16 ∧ 16 * k + r < N := by unfold bitsOf at hr; omega
  have := (Pl.inB_iff.1 h) (16 * k + r) hr'.2
  unfold Pl.bitAt at this
  rwa [show (16 * k + r) / 16 = k by omega, show (16 * k + r) % 16 = r by omega] at this
end Go.Proofs.YtbjogkpepfgegaaGreatDoor
namespace Go.Proofs.YtbjogkpepfgegaaGreatDoor
open Go.RowKit Go.Shelf
namespace Pl
def intoErr (s : Six) (n four : Int) : Int := if pfxErr s n = 0 then (if 0 ≤ four ∧ four < 4294967296 then 0 else 1) else pfxErr s n
def into (s : Six) (n f : Int) : Six := if intoErr s n f = 0 then sixAt (put (two s.l) (four f) (spots (n / 8).toNat)) else ⟨0, 0, 0, 0, 0, 0, 0, 0⟩
theorem pfx_zero {s : Six} {n : Int} (h : pfxErr s n = 0) : okS s = true ∧ longB n = true ∧ clean (two s.l) n := by
  unfold pfxErr at h
  by_cases h1 : okS s = true
  · rw [if_pos h1] at h
    by_cases h2 : longB n = true
    · rw [if_pos h2] at h
      by_cases h3 : clean (two s.l) n
      · exact ⟨h1, h2, h3⟩
      · rw [if_neg h3] at h; exact absurd h (by decide)
    · rw [if_neg h2] at h; exact absurd h (by decide)
  · rw [if_neg h1] at h; exact absurd h (by decide)
theorem longB_nat {n : Int} (h : longB n = true) : ∃ m : Nat, 4 ≤ m ∧ m ≤ 12 ∧ n = 8 * (m : Int) ∧ (n / 8).toNat = m := by
  have hn := longB_yes h
  exact ⟨(n / 8).toNat, by omega, by omega, by omega, rfl⟩
end Pl
/-- Out, of any arguments. -/
theorem out_any (s : Six) (n : Int) (w : World) :
    Calls Tryz.prog 65 #[s.v, .int .i64 n] w fun e w' => e = .returned (.tuple #[.int .i64 (Pl.outVal s n), erv (Pl.outErr s n)]) ∧ Ext w w' := by
  by_cases h : okS s = true ∧ Pl.longB n = true
  · obtain ⟨m, h4, h12, hn, _⟩ := Pl.longB_nat h.2
    obtain ⟨hs, hl⟩ := h
    subst hn
    exact out_ok s m w hs ⟨h4, h12⟩ hl
  · have he : Pl.outErr s n = 1 := by
      unfold Pl.outErr
      by_cases hs : okS s = true
      · rw [if_pos hs, if_neg (fun hl => h ⟨hs, hl⟩)]
      · rw [if_neg hs]
    have hv : Pl.outVal s n = 0 := by unfold Pl.outVal; rw [he]; rfl
    rw [he, hv]
    exact out_no s n w h
end Go.Proofs.YtbjogkpepfgegaaGreatDoor
namespace Go.Proofs.YtbjogkpepfgegaaGreatDoor
open Go.RowKit
theorem sixE_yes {s : Six} (h : okS s = true) : sixE s = 0 := by unfold sixE; rw [if_pos (show words s.l = true from h)]
theorem sixE_no {s : Six} (h : okS s = false) : sixE s = 1 := by unfold sixE; rw [if_neg (by rw [show words s.l = false from h]; decide)]

namespace Pl
/-- What OutOf has done when it comes to byte i. -/
def OutAt (b : List Int) (m k i : Nat) (v : Int) : Prop := v = val b ((spots m).take k) ∧ k ≤ 4 ∧ i ≤ 16 ∧
  ((k < 4 ∧ (i = cur m k ∨ (cur m k = 8 ∧ i = 9))) ∨ (k = 4 ∧ spot m 3 < i ∧ ∀ j : Nat, spot m 3 < j → j < i → j ≠ 8 → b.getD j 0 = 0))
end Pl
end Go.Proofs.YtbjogkpepfgegaaGreatDoor
namespace Go.Proofs.YtbjogkpepfgegaaGreatDoor
open Go.RowKit
/-- Numbers in cells. -/
def KI : Kin Int := ⟨fun x => [.int .i64 x], 1, by decide, fun _ => rfl, fun _ u hu => by rw [List.mem_singleton.1 hu]; rfl⟩
theorem Ints.see {w : World} {a : Option Addr} {n : Nat} {xs : List Int} (h : Ints .i64 w a n xs) : KI.See w a n xs := by
  refine ⟨h.len, ?_⟩
  rcases h.2 with h0 | ⟨b, off, rfl, hc⟩
  · exact .inl h0
  · refine .inr ⟨b, off, rfl, fun i x hx r u hu => ?_⟩
    obtain ⟨hi, rfl⟩ := List.getElem?_eq_some_iff.1 hx
    have hr : r = 0 := by have := (List.getElem?_eq_some_iff.1 hu).1; simp [KI] at this; exact this
    subst hr
    have := hc i (by rw [← h.len]; exact hi)
    simp [KI] at hu
    rw [← hu]
    simpa [KI, List.getD, hi] using this
theorem Kin.See.ints {w : World} {a : Option Addr} {n : Nat} {xs : List Int} (h : KI.See w a n xs) : Ints .i64 w a n xs := by
  refine ⟨h.1, ?_⟩
  rcases h.2 with h0 | ⟨b, off, rfl, hc⟩
  · exact .inl h0
  · refine .inr ⟨b, off, rfl, fun i hi => ?_⟩
    have hl : i < xs.length := by rw [h.1]; exact hi
    have := hc i xs[i] (List.getElem?_eq_getElem hl) 0 (.int .i64 xs[i]) rfl
    simpa [KI, List.getD, hl] using this
theorem Tryz.infoInt : (Tryz.prog.info? 3).map (fun i => (i.zero, i.size, i.bytes)) = some (some (.int .i64 0), 1, 8) := by kernel_rfl
theorem appI {w : World} {ops : Array Oper} {rest : List Oper} {o : Oper} {a : Act} {Q : Exit → Act → World → Prop} (hgd : o.guard = none) (s x : Operand)
    (ho : o.op = .call { callee := .builtin .append, args := #[s, x], argTypes := #[191, 191] })
    (B : Nat) (v : Value) (ys : List Int) (hs : a.eval s = v) (hown : KI.Own 3 w B v ys) (ao : Option Addr) (m c : Nat) (xs : List Int) (hx : a.eval x = .slice ao m c) (hr : Ints .i64 w ao m xs)
    (hmax : ys.length + m ≤ 1073741824) (hbase : B ≤ w.heap.size)
    (h : ∀ v' w', KI.Own 3 w' B v' (ys ++ xs) → w.grownBy w' v.ownBlock → Below B w w' → wpList Tryz.prog ops Q rest (a.put o.dst v') w') : wpList Tryz.prog ops Q (o :: rest) a w :=
  appK KI 191 3 (.int .i64 0) 8 Tryz.underlying191 Tryz.infoInt rfl (by decide) hgd s x ho B v ys hs hown ao m c xs hx hr.see hmax hbase h
theorem Blk.ints1 {w : World} {g : Nat} {t : TypeId} {x : Int} (h : Blk w g t #[.int .i64 x]) : Ints .i64 w (some ⟨g, 0, none⟩) 1 [x] := h.ints rfl fun i hi => by
  obtain rfl : i = 0 := by omega
  rfl
theorem Blk.ints2 {w : World} {g : Nat} {t : TypeId} {x y : Int} (h : Blk w g t #[.int .i64 x, .int .i64 y]) : Ints .i64 w (some ⟨g, 0, none⟩) 2 [x, y] := h.ints rfl fun i hi => by
  have : i = 0 ∨ i = 1 := by omega
  rcases this with rfl | rfl <;> rfl
end Go.Proofs.YtbjogkpepfgegaaGreatDoor
namespace Go.Proofs.YtbjogkpepfgegaaGreatDoor
open Go.RowKit
/-- May a flow be, as the document asks. -/
def okF (f : Flow) : Bool := (decide (f.kind = 6) || decide (f.kind = 17)) && words f.client.l && words f.dst.l && w16 f.port && w16 f.door
theorem w16_iff {n : Int} : w16 n = true ↔ 0 ≤ n ∧ n ≤ 65535 := by unfold w16; simp
theorem okF_iff {f : Flow} : okF f = true ↔ f.Ok := by
  unfold okF Flow.Ok Six.Ok
  simp only [Bool.and_eq_true, Bool.or_eq_true, decide_eq_true_eq, w16_iff]
  constructor
  · rintro ⟨⟨⟨⟨h1, h2⟩, h3⟩, h4⟩, h5⟩
    exact ⟨h1, h2, h3, h4, h5⟩
  · rintro ⟨h1, h2, h3, h4, h5⟩
    exact ⟨⟨⟨⟨h1, h2⟩, h3⟩, h4⟩, h5⟩
/-- The fault of a flow. -/
def flowE (f : Flow) : Int := if okF f = true then 0 else 1
/-- The fault of a score. -/
def okSc (seed : Int) (f : Flow) (id : Int) : Bool := decide (0 ≤ seed) && decide (seed ≤ 2147483647) && w16 id && okF f
theorem okSc_iff {seed : Int} {f : Flow} {id : Int} : okSc seed f id = true ↔ (0 ≤ seed ∧ seed < 2147483648) ∧ (0 ≤ id ∧ id ≤ 65535) ∧ f.Ok := by
  unfold okSc
  simp only [Bool.and_eq_true, decide_eq_true_eq, w16_iff, okF_iff]
  constructor
  · rintro ⟨⟨⟨h1, h2⟩, h3⟩, h4⟩; exact ⟨⟨h1, by omega⟩, h3, h4⟩
  · rintro ⟨⟨h1, h2⟩, h3, h4⟩; exact ⟨⟨⟨h1, by omega⟩, h3⟩, h4⟩
end Go.Proofs.YtbjogkpepfgegaaGreatDoor
namespace Go.Proofs.YtbjogkpepfgegaaGreatDoor
open Go.RowKit
namespace Pl
/-- What is wrong with servers: the place told and the fault. -/
def PF (bs : List Back) (i q : Int) : Prop := if 8 < bs.length then i = 0 ∧ q = 3 else ∃ k : Nat, (∀ j, j < k → Fine bs j) ∧
  ((k = bs.length ∧ i = 0 ∧ q = 0) ∨ (k < bs.length ∧ ¬ (bs.getD k back0).Num ∧ i = k ∧ q = 1) ∨
    (k < bs.length ∧ (bs.getD k back0).Num ∧ (∃ m, m < k ∧ (bs.getD m back0).id = (bs.getD k back0).id) ∧ i = k ∧ q = 8))
theorem PF.one {bs : List Back} {i q i' q' : Int} (h : PF bs i q) (h' : PF bs i' q') : i = i' ∧ q = q' := by
  unfold PF at h h'
  split at h
  · rw [if_pos ‹_›] at h'
    exact ⟨h.1.trans h'.1.symm, h.2.trans h'.2.symm⟩
  · rw [if_neg ‹_›] at h'
    obtain ⟨k, hk, hc⟩ := h
    obtain ⟨k', hk', hc'⟩ := h'
    have bad : ∀ j, ¬ Fine bs j → (∀ m, m < j → Fine bs m) → ∀ j', (∀ m, m < j' → Fine bs m) → j' ≤ j := fun j hj _ j' hj' => by
      rcases Nat.lt_or_ge j j' with h | h
      · exact absurd (hj' j h) hj
      · exact h
    rcases hc with ⟨h1, h2, h3⟩ | ⟨h1, h2, h3, h4⟩ | ⟨h1, h2, ⟨m, hm, he⟩, h3, h4⟩
    · have hno : ¬ k' < k := fun hh => by
        have := hk k' hh
        rcases hc' with ⟨g1, _⟩ | ⟨g1, g2, _⟩ | ⟨g1, g2, ⟨m, hm, he⟩, _⟩
        · omega
        · exact g2 this.1
        · exact this.2 m hm he
      rcases hc' with ⟨g1, g2, g3⟩ | ⟨g1, _⟩ | ⟨g1, _⟩
      · exact ⟨h2.trans g2.symm, h3.trans g3.symm⟩
      · omega
      · omega
    · have nf : ¬ Fine bs k := fun hf => h2 hf.1
      have hle := bad k nf hk k' hk'
      rcases hc' with ⟨g1, g2, g3⟩ | ⟨g1, g2, g3, g4⟩ | ⟨g1, g2, ⟨m, hm, he⟩, g3, g4⟩
      · omega
      · have := bad k' (fun hf => g2 hf.1) hk' k hk
        obtain rfl : k = k' := by omega
        exact ⟨h3.trans g3.symm, h4.trans g4.symm⟩
      · have := bad k' (fun hf => hf.2 m hm he) hk' k hk
        obtain rfl : k = k' := by omega
        exact absurd g2 h2
    · have nf : ¬ Fine bs k := fun hf => hf.2 m hm he
      have hle := bad k nf hk k' hk'
      rcases hc' with ⟨g1, g2, g3⟩ | ⟨g1, g2, g3, g4⟩ | ⟨g1, g2, ⟨m', hm', he'⟩, g3, g4⟩
      · omega
      · have := bad k' (fun hf => g2 hf.1) hk' k hk
        obtain rfl : k = k' := by omega
        exact absurd h2 g2
      · have := bad k' (fun hf => hf.2 m' hm' he') hk' k hk
        obtain rfl : k = k' := by omega
        exact ⟨h3.trans g3.symm, h4.trans g4.symm⟩
theorem PF.ok {bs : List Back} {i q : Int} (h : PF bs i q) (hq : q = 0) : OkBacks bs := by
  subst hq
  unfold PF at h
  split at h
  · exact absurd h.2 (by decide)
  · obtain ⟨k, hk, hc⟩ := h
    rcases hc with ⟨h1, _⟩ | ⟨_, _, _, h⟩ | ⟨_, _, _, _, h⟩
    · exact ⟨by omega, fun j hj => hk j (by omega)⟩
    · cases h
    · cases h
theorem PF.bad {bs : List Back} {i q : Int} (h : PF bs i q) (hq : q ≠ 0) : ¬ OkBacks bs := fun ho => by
  unfold PF at h
  split at h
  · have := ho.1; omega
  · obtain ⟨k, hk, hc⟩ := h
    rcases hc with ⟨_, _, h⟩ | ⟨h1, h2, _⟩ | ⟨h1, _, ⟨m, hm, he⟩, _⟩
    · exact hq h
    · exact h2 (ho.2 k h1).1
    · exact (ho.2 k h1).2 m hm he
end Pl
theorem pcheck_all (a : Option Addr) (n c : Nat) (bs : List Pl.Back) (w : World) (hb : Backs w a n bs) (hnc : n ≤ c) :
    Calls Tryz.prog 49 #[.slice a n c] w fun e w' => (∃ i q : Int, Pl.PF bs i q ∧ e = .returned (.tuple #[.int .i64 i, erv q])) ∧ Ext w w' := by
  by_cases h8 : n ≤ 8
  · refine (pcheck_any a n c bs w hb h8 hnc).mono fun e w' ⟨⟨i, hi, hc⟩, hE⟩ => ⟨?_, hE⟩
    have hl : ¬ 8 < bs.length := by rw [hb.1]; omega
    rcases hc with ⟨h0, he⟩ | ⟨h1, h2, he⟩ | ⟨h1, h2, h3, he⟩
    · exact ⟨0, 0, by unfold Pl.PF; rw [if_neg hl]; exact ⟨i, hi, .inl ⟨h0, rfl, rfl⟩⟩, he⟩
    · exact ⟨i, 1, by unfold Pl.PF; rw [if_neg hl]; exact ⟨i, hi, .inr (.inl ⟨h1, h2, rfl, rfl⟩)⟩, he⟩
    · exact ⟨i, 8, by unfold Pl.PF; rw [if_neg hl]; exact ⟨i, hi, .inr (.inr ⟨h1, h2, h3, rfl, rfl⟩)⟩, he⟩
  · refine (pcheck_full a n c w (by omega)).mono fun e w' ⟨he, hE⟩ => ⟨⟨0, 3, ?_, he⟩, hE⟩
    unfold Pl.PF
    rw [if_pos (by rw [hb.1]; omega)]
    exact ⟨rfl, rfl⟩
/-- May a server's numbers be. -/
def bN (b : Pl.Back) : Bool := w16 b.id && w16 b.door && w32 b.addr && decide (0 ≤ b.weight) && decide (b.weight ≤ 10)
theorem bN_iff {b : Pl.Back} : bN b = true ↔ b.Num := by
  unfold bN Pl.Back.Num w32
  simp only [Bool.and_eq_true, decide_eq_true_eq, w16_iff]
  constructor
  · rintro ⟨⟨⟨⟨h1, h2⟩, h3⟩, h4⟩, h5⟩
    exact ⟨h1, h2, ⟨h3.1, by omega⟩, h4, h5⟩
  · rintro ⟨h1, h2, h3, h4, h5⟩
    exact ⟨⟨⟨⟨h1, h2⟩, h3.1, by omega⟩, h4⟩, h5⟩
end Go.Proofs.YtbjogkpepfgegaaGreatDoor
namespace Go.Proofs.YtbjogkpepfgegaaGreatDoor
open Go.RowKit
/-- append to what the call owns: at the operation, with where the outcome lies. -/
theorem wp_appKL {α : Type} (K : Kin α) (sl t : TypeId) (z : Value) (bz : Nat) (hU : Tryz.prog.underlying sl = some (.slice t)) (hI : (Tryz.prog.info? t).map (fun i => (i.zero, i.size, i.bytes)) = some (some z, K.sz, bz))
    (hz : z.cells.size = K.sz) (hby : bz ≤ 65536) {w : World} {o : Oper} {a : Act} {N : Act → World → Prop} {Q : Exit → Act → World → Prop} (s x : Operand)
    (ho : o.op = .call { callee := .builtin .append, args := #[s, x], argTypes := #[sl, sl] })
    (B : Nat) (v : Value) (ys : List α) (hs : a.eval s = v) (hown : K.Own t w B v ys) (ao : Option Addr) (m c : Nat) (xs : List α) (hx : a.eval x = .slice ao m c) (hr : K.See w ao m xs)
    (hmax : ys.length + m ≤ 1073741824) (hbase : B ≤ w.heap.size)
    (h : ∀ v' w', K.Own t w' B v' (ys ++ xs) → w.grownBy w' v.ownBlock → Below B w w' → (v'.ownBlock = v.ownBlock ∨ v'.ownBlock = some w.heap.size) → N (a.put o.dst v') w') : o.wp Tryz.prog a w N Q := by
  obtain ⟨i0, hi, hz0, hz1, hz2⟩ := info_parts hI
  have hl : (K.cells xs).length = m * K.sz := by rw [K.cells_length, hr.1]
  have hb : (ys.length + m) * bz ≤ 140737488355328 := Nat.le_trans (Nat.mul_le_mul hmax hby) (by decide)
  have at' : ∀ (ad : Addr) (news : List Value), a.eval x = .slice (some ad) m c → news.length = m * K.sz → (∀ j u, news[j]? = some u → w.cell? (ad.add j) = some u) → (∀ u ∈ news, u.oneCell' = true) → news = K.cells xs → o.wp Tryz.prog a w N Q := by
    intro ad news hx hnl hnews h1 hne
    obtain ⟨v', w', hr', h2, h3, _, h5⟩ := run_append_own_at (P := Tryz.prog) w B sl o.type t i0 z K.sz bz hU hi hz0 hz1 hz2 hz K.pos v _ (K.cells ys) hown ad m c news hnl hnews h1 (by unfold maxLen; omega) hb hbase
    unfold Oper.wp execOp
    simp only [ho, resolve, invoke, builtin, Sem.run_bind, Sem.run_pure, Result.andThen_ok, List.map_toArray, List.map_cons, List.map_nil, hs, hx, hr']
    refine h v' w' ?_ h3 ((Below.refl B w).grown h3 hbase fun k hk => (hown.lt k hk).1) h5
    unfold Kin.Own
    rw [List.length_append, hr.1, ← K.cells_append, ← hne]
    exact h2
  rcases hr.2 with h0 | ⟨b, off, rfl, hc⟩
  · subst h0
    obtain rfl : xs = [] := List.length_eq_zero_iff.1 hr.1
    cases ao with
    | none =>
      refine wp_append_own_none0 s x _ ho B _ i0 K.sz hU hi v _ (K.cells ys) c hs hown hx (h v w ?_ (World.grownBy.refl _ _) (Below.refl B w) (.inl rfl))
      simpa using hown
    | some ad => exact at' ad [] hx (by simp) (fun _ _ h => by simp at h) (fun _ h => by cases h) rfl
  · refine at' ⟨b, off, none⟩ (K.cells xs) hx hl ?_ (K.cells_one xs) rfl
    intro j u hj
    have hlt : j < m * K.sz := by have := (List.getElem?_eq_some_iff.1 hj).1; omega
    have hi6 : j / K.sz < xs.length := by rw [hr.1]; exact (Nat.div_lt_iff_lt_mul K.pos).2 hlt
    have hmod := Nat.mod_lt j K.pos
    have hdm : j / K.sz * K.sz + j % K.sz = j := by rw [Nat.mul_comm]; exact Nat.div_add_mod j K.sz
    have hat := K.cells_at xs (j / K.sz) (j % K.sz) _ (List.getElem?_eq_getElem hi6) hmod
    rw [hdm, hj] at hat
    have := hc (j / K.sz) _ (List.getElem?_eq_getElem hi6) (j % K.sz) u hat.symm
    rw [Addr.add_lit]
    rwa [Nat.add_assoc, hdm] at this
theorem appKL {α : Type} (K : Kin α) (sl t : TypeId) (z : Value) (bz : Nat) (hU : Tryz.prog.underlying sl = some (.slice t)) (hI : (Tryz.prog.info? t).map (fun i => (i.zero, i.size, i.bytes)) = some (some z, K.sz, bz))
    (hz : z.cells.size = K.sz) (hby : bz ≤ 65536) {w : World} {ops : Array Oper} {rest : List Oper} {o : Oper} {a : Act} {Q : Exit → Act → World → Prop} (hgd : o.guard = none) (s x : Operand)
    (ho : o.op = .call { callee := .builtin .append, args := #[s, x], argTypes := #[sl, sl] })
    (B : Nat) (v : Value) (ys : List α) (hs : a.eval s = v) (hown : K.Own t w B v ys) (ao : Option Addr) (m c : Nat) (xs : List α) (hx : a.eval x = .slice ao m c) (hr : K.See w ao m xs)
    (hmax : ys.length + m ≤ 1073741824) (hbase : B ≤ w.heap.size)
    (h : ∀ v' w', K.Own t w' B v' (ys ++ xs) → w.grownBy w' v.ownBlock → Below B w w' → (v'.ownBlock = v.ownBlock ∨ v'.ownBlock = some w.heap.size) → wpList Tryz.prog ops Q rest (a.put o.dst v') w') : wpList Tryz.prog ops Q (o :: rest) a w :=
  wpList_plain hgd fun _ hK => wp_appKL K sl t z bz hU hI hz hby s x ho B v ys hs hown ao m c xs hx hr hmax hbase fun v' w' h1 h2 h3 h4 => hK _ _ (h v' w' h1 h2 h3 h4)
/-- x[k:] of a row. -/
theorem tailK {α : Type} (K : Kin α) (sl t : TypeId) (hE : Tryz.prog.elem sl = t) (hU : Tryz.prog.underlying sl = some (.slice t)) (hS : ∀ w : World, (sizeOf t).run Tryz.prog w = .ok K.sz w) (a : Option Addr) (n c k : Nat) (i : Int) (hi : i = k) (hk : k ≤ n) (hnc : n ≤ c) :
    ∃ AA : Option Addr, (∀ (w : World) (xs : List α), K.See w a n xs → K.See w AA (n - k) (xs.drop k)) ∧
      ∀ W : World, (Instr.slice sl (.slice a n c) (some (.int .i64 i)) none none).run Tryz.prog W = .ok (.slice AA (n - k) (c - k)) W := by
  subst hi
  refine ⟨if c = k then a else a.map (·.add (k * K.sz)), fun w xs h => ?_, fun W => ?_⟩
  · by_cases hz : n - k = 0
    · exact ⟨by rw [List.length_drop, h.1], .inl hz⟩
    · rcases h.2 with h0 | ⟨b, off, rfl, _⟩
      · omega
      · rw [if_neg (by omega), Option.map_some, Addr.add_mid]
        exact h.drop k
  · rw [run_slice_l W sl a n c (by rw [hE]; exact hU) .i64 (k : Int) (by omega) (by omega), hE, hS]
    simp only [Result.andThen_ok, sliced, Int.toNat_natCast]
/-- x[:k] of a row. -/
theorem headK {α : Type} (K : Kin α) (sl t : TypeId) (hE : Tryz.prog.elem sl = t) (hU : Tryz.prog.underlying sl = some (.slice t)) (hS : ∀ w : World, (sizeOf t).run Tryz.prog w = .ok K.sz w) (b off n c k : Nat) (i : Int) (hi : i = k) (hk : k ≤ c) :
    ∀ W : World, (Instr.slice sl (.slice (some ⟨b, off, none⟩) n c) none (some (.int .i64 i)) none).run Tryz.prog W = .ok (.slice (some ⟨b, off, none⟩) k c) W := by
  subst hi
  intro W
  rw [run_slice_h W sl (some ⟨b, off, none⟩) n c (by rw [hE]; exact hU) .i64 (k : Int) (by omega) (by omega), hE, hS]
  simp only [Result.andThen_ok, sliced, Int.toNat_natCast, Nat.sub_zero, Nat.zero_mul, Option.map_some, Addr.add_mid, Nat.add_zero]
  by_cases hc : c = 0
  · rw [if_pos hc]
  · rw [if_neg hc]
/-- Addresses in cells. -/
def KS : Kin Six := ⟨fun s => s.cells.toList, 8, by decide, fun _ => rfl, fun s u hu => by
  have h : s.cells.all (·.oneCell') = true := by simp [Six.cells, Value.oneCell']
  exact (Array.all_eq_true_iff_forall_mem.1 h) u (by simpa using hu)⟩
theorem Tryz.elemInts : Tryz.prog.elem 191 = 3 := by kernel_rfl
theorem Tryz.sizeIntK : ∀ w : World, (sizeOf 3).run Tryz.prog w = .ok KI.sz w := fun w => by kernel_rfl
theorem Tryz.sizeSixK : ∀ w : World, (sizeOf 23).run Tryz.prog w = .ok KS.sz w := fun w => by kernel_rfl
theorem Tryz.infoSix : (Tryz.prog.info? 23).map (fun i => (i.zero, i.size, i.bytes)) = some (some (.agg #[.int .i64 0, .int .i64 0, .int .i64 0, .int .i64 0, .int .i64 0, .int .i64 0, .int .i64 0, .int .i64 0]), 8, 64) := by kernel_rfl
theorem appIL {w : World} {ops : Array Oper} {rest : List Oper} {o : Oper} {a : Act} {Q : Exit → Act → World → Prop} (hgd : o.guard = none) (s x : Operand)
    (ho : o.op = .call { callee := .builtin .append, args := #[s, x], argTypes := #[191, 191] })
    (B : Nat) (v : Value) (ys : List Int) (hs : a.eval s = v) (hown : KI.Own 3 w B v ys) (ao : Option Addr) (m c : Nat) (xs : List Int) (hx : a.eval x = .slice ao m c) (hr : KI.See w ao m xs)
    (hmax : ys.length + m ≤ 1073741824) (hbase : B ≤ w.heap.size)
    (h : ∀ v' w', KI.Own 3 w' B v' (ys ++ xs) → w.grownBy w' v.ownBlock → Below B w w' → (v'.ownBlock = v.ownBlock ∨ v'.ownBlock = some w.heap.size) → wpList Tryz.prog ops Q rest (a.put o.dst v') w') : wpList Tryz.prog ops Q (o :: rest) a w :=
  appKL KI 191 3 (.int .i64 0) 8 Tryz.underlying191 Tryz.infoInt rfl (by decide) hgd s x ho B v ys hs hown ao m c xs hx hr hmax hbase h
theorem Blk.sixes1 {w : World} {g : Nat} {t : TypeId} {s : Six} (h : Blk w g t s.cells) : KS.See w (some ⟨g, 0, none⟩) 1 [s] := Kin.See.blk h (by simp [Kin.cells, KS])
/-- An address of a row, read whole. -/
theorem Kin.See.six {w : World} {b off n : Nat} {xs : List Six} (h : KS.See w (some ⟨b, off, none⟩) n xs) {i : Nat} {s : Six} (hi : xs[i]? = some s) :
    (Instr.loadAt 23 (.pointer (some ⟨b, off + i * 8, none⟩))).run Tryz.prog w = .ok (.agg s.cells) w := by
  have hn : 0 < n := by
    have := (List.getElem?_eq_some_iff.1 hi).1
    rw [h.1] at this
    omega
  rcases h.2 with h0 | ⟨b', off', hb, hc⟩
  · omega
  · cases hb
    have := run_loadAt_mid (P := Tryz.prog) w b (off + i * 8) 23 s.cells.toList _ (fun j v hv => hc i s hi j v hv) Tryz.underlying23 rfl Tryz.size6
    rw [Array.toArray_toList] at this
    exact this
end Go.Proofs.YtbjogkpepfgegaaGreatDoor
namespace Go.Proofs.YtbjogkpepfgegaaGreatDoor
open Go.RowKit

theorem Handle.below {w w' : World} (h : Handle w) (hb : Below w.heap.size w w') : Handle w' := by
  unfold Handle at *
  rw [hb.cell (World.block_lt_of_cell? w _ h)]
  exact h

theorem told_nil (w : World) : Calls Tryz.prog 39 #[.nilIface] w fun e w' => e = .returned (.int .i64 0) ∧ w = w' := by
  go_enter Tryz.func39, Tryz.ntmps39
  go_wp2
  go_ret
  exact ⟨rfl, rfl⟩
theorem told_err (n : Int) (w : World) (hg : Handle w) : Calls Tryz.prog 39 #[errv n] w fun e w' => e = .returned (.int .i64 n) ∧ Below w.heap.size w w' := by
  have hb : Below w.heap.size w (w.alloc (.cells #[.int .i64 0] 56)) := by go_grown
  have H := Lib.hid (hg.below hb)
  have hc : (w.alloc (.cells #[.int .i64 0] 56)).cell? ⟨w.heap.size, 0, none⟩ = some (.int .i64 0) := by simp
  have hf : (w.alloc (.cells #[.int .i64 0] 56)).frozen? ⟨w.heap.size, 0, none⟩ = false := by simp
  have hz : w.heap.size < (w.alloc (.cells #[.int .i64 0] 56)).heap.size := by simp
  have HC := Lib.hid hc
  have HF := Lib.hid hf
  clear hg hc hf
  unfold errv
  go_enter Tryz.func39, Tryz.ntmps39
  go_wp2_with fail
  generalize w.alloc (.cells #[.int .i64 0] 56) = W1 at *
  with_reducible refine (as_hit n ⟨w.heap.size, 0, none⟩ _ W1 H.out HC.out HF.out).mono ?_
  rintro e w' ⟨rfl, X, hX, rfl⟩
  have hx : X.cell? ⟨w.heap.size, 0, none⟩ = some (.int .i64 0) := (hX.cell (p := ⟨w.heap.size, 0, none⟩) hz).trans HC.out
  have hn : (X.setCell ⟨w.heap.size, 0, none⟩ (.int .i64 n)).cell? ⟨w.heap.size, 0, none⟩ = some (.int .i64 n) := by simp [go_sem, hx]
  have B : Below w.heap.size w (X.setCell ⟨w.heap.size, 0, none⟩ (.int .i64 n)) := (hb.trans (hX.mono hb.size)).setCell (p := ⟨w.heap.size, 0, none⟩) (Nat.le_refl _) _
  generalize X.setCell ⟨w.heap.size, 0, none⟩ (.int .i64 n) = W2 at *
  go_wp2_with fail
  go_ret
  exact ⟨rfl, B⟩

theorem error_nil (m : Int) (w : World) : Calls Tryz.prog 14 #[.nilIface, .int .i64 m] w fun e w' => e = .returned (.bool ((0 : Int) == m)) ∧ w = w' := by
  go_enter Tryz.func14, Tryz.ntmps14
  go_wp2_with fail
  refine (told_nil w).mono ?_
  rintro e w' ⟨rfl, rfl⟩
  go_wp2_with fail
  go_ret
  exact ⟨rfl, rfl⟩
theorem error_err (n m : Int) (w : World) (hg : Handle w) : Calls Tryz.prog 14 #[errv n, .int .i64 m] w fun e w' => e = .returned (.bool (n == m)) ∧ Below w.heap.size w w' := by
  have H := Lib.hid hg
  clear hg
  unfold errv
  go_enter Tryz.func14, Tryz.ntmps14
  go_wp2_with fail
  refine (told_err n w H.out).mono ?_
  rintro e w' ⟨rfl, hb⟩
  go_wp2_with fail
  go_ret
  exact ⟨rfl, hb⟩
end Go.Proofs.YtbjogkpepfgegaaGreatDoor
namespace Go.Proofs.YtbjogkpepfgegaaGreatDoor
open Go.RowKit
theorem err_same (q : Int) (w : World) (hg : Handle w) : Calls Tryz.prog 14 #[erv q, .int .i64 q] w fun e w' => e = .returned (.bool true) ∧ Below w.heap.size w w' := by
  by_cases h : q = 0
  · subst h
    rw [erv_zero]
    exact (error_nil 0 w).mono fun _ _ ⟨he, hw⟩ => ⟨he, by rw [← hw]; exact Below.refl _ _⟩
  · rw [erv_ne h]
    exact (error_err q q w hg).mono fun _ _ ⟨he, hb⟩ => ⟨by rw [he]; simp, hb⟩
end Go.Proofs.YtbjogkpepfgegaaGreatDoor
namespace Go.Proofs.YtbjogkpepfgegaaGreatDoor
open Go.RowKit

set_option maxRecDepth 100000 in
set_option maxHeartbeats 2000000 in
theorem concat3 (g : Nat) (a1 : Option Addr) (n1 c1 : Nat) (x1 : List Int) (a2 : Option Addr) (n2 c2 : Nat) (x2 : List Int) (a3 : Option Addr) (n3 c3 : Nat) (x3 : List Int) (w : World) (K : Blk w g 37 #[.slice a1 n1 c1, .slice a2 n2 c2, .slice a3 n3 c3])
    (h1 : Ints .u8 w a1 n1 x1) (h2 : Ints .u8 w a2 n2 x2) (h3 : Ints .u8 w a3 n3 x3) (hn : n1 + n2 + n3 ≤ 10000) :
    Calls Tryz.prog 72 #[.slice (some ⟨g, 0, none⟩) 3 3] w fun e w' => ∃ v, e = .returned v ∧ Own w' w.heap.size v (x1 ++ x2 ++ x3) ∧ Ext w w' := by
  have H1 := Lib.hid h1
  have H2 := Lib.hid h2
  have H3 := Lib.hid h3
  have HK := Lib.hid K
  have k0 : w.cell? ⟨g, 0, none⟩ = some (.slice a1 n1 c1) := K.cells 0
  have k1 : w.cell? ⟨g, 1, none⟩ = some (.slice a2 n2 c2) := K.cells 1
  have k2 : w.cell? ⟨g, 2, none⟩ = some (.slice a3 n3 c3) := K.cells 2
  have HC := Lib.hid (show (n1 : Int) + (n2 : Int) = ((n1 + n2 : Nat) : Int) by omega)
  have hz1 : ¬ (n1 : Int) < 0 := by omega
  obtain ⟨m2, hm2⟩ : ∃ m, m = n1 + n2 := ⟨_, rfl⟩
  obtain ⟨m3, hm3⟩ : ∃ m, m = n1 + n2 + n3 := ⟨_, rfl⟩
  have HM2 := Lib.hid hm2
  have HM3 := Lib.hid hm3
  have b2 : m2 ≤ 10000 := by omega
  have b3 : m3 ≤ 10000 := by omega
  clear h1 h2 h3 K hm2 hm3
  go_enter Tryz.func72, Tryz.ntmps72
  go_wp2_with fail
  go_loopw [3, 11] (fun s k wr => w = wr ∧ ((k = .int .i64 0 ∧ s = .int .i64 0) ∨ (k = .int .i64 1 ∧ s = .int .i64 n1) ∨ (k = .int .i64 2 ∧ s = .int .i64 (m2 : Int)) ∨ (k = .int .i64 3 ∧ s = .int .i64 (m3 : Int)))) (fun _ k _ => 3 - (intOf k).toNat)
  case atStart => exact ⟨rfl, .inl ⟨rfl, rfl⟩⟩
  case round =>
    obtain ⟨rfl, ⟨rfl, rfl⟩ | ⟨rfl, rfl⟩ | ⟨rfl, rfl⟩ | ⟨rfl, rfl⟩⟩ := hrel
    · go_wp2_with fail
      go_roundw
      case rel => exact ⟨trivial, .inr (.inl ⟨rfl, rfl⟩)⟩
      case measure => simp [intOf]
    · have hz2 : ¬ (n1 : Int) + (n2 : Int) < 0 := by omega
      have ew : IntKind.i64.wrap ((n1 : Int) + (n2 : Int)) = (n1 : Int) + (n2 : Int) := IntWalk.i64_in _ (by omega)
      go_wp2_with fail
      go_roundw
      case rel => exact ⟨trivial, .inr (.inr (.inl ⟨rfl, val_int (by have := HM2.out; omega)⟩))⟩
      case measure => simp [intOf]
    · have hz2 : ¬ (m2 : Int) + (n3 : Int) < 0 := by omega
      have ew : IntKind.i64.wrap ((m2 : Int) + (n3 : Int)) = (m2 : Int) + (n3 : Int) := IntWalk.i64_in _ (by omega)
      go_wp2_with fail
      go_roundw
      case rel => exact ⟨trivial, .inr (.inr (.inr ⟨rfl, val_int (by have := HM2.out; have := HM3.out; omega)⟩))⟩
      case measure => simp [intOf]
    · go_wp2_with fail
      refine (grow_nil m3 w (by omega)).mono ?_
      rintro e W1 ⟨v, rfl, o1, q1⟩
      clear k0 k1 k2
      go_wp2_with fail
      go_loopw [6, 27] (fun v k wr => ∃ ys, Own wr w.heap.size v ys ∧ Ext w wr ∧ ((k = .int .i64 0 ∧ ys = []) ∨ (k = .int .i64 1 ∧ ys = x1) ∨ (k = .int .i64 2 ∧ ys = x1 ++ x2) ∨ (k = .int .i64 3 ∧ ys = x1 ++ x2 ++ x3))) (fun _ k _ => 3 - (intOf k).toNat)
      case atStart => exact ⟨[], o1, q1, .inl ⟨rfl, rfl⟩⟩
      case round =>
        obtain ⟨ys, oy, qy, hk⟩ := hrel
        have KW := HK.out.ext qy
        have j0 : wr.cell? ⟨g, 0, none⟩ = some (.slice a1 n1 c1) := KW.cells 0
        have j1 : wr.cell? ⟨g, 1, none⟩ = some (.slice a2 n2 c2) := KW.cells 1
        have j2 : wr.cell? ⟨g, 2, none⟩ = some (.slice a3 n3 c3) := KW.cells 2
        clear KW
        rcases hk with ⟨rfl, rfl⟩ | ⟨rfl, rfl⟩ | ⟨rfl, rfl⟩ | ⟨rfl, rfl⟩
        · go_wp2_with (at_builtin; refine Halt.out ?_)
          refine Halt.mk ?_
          refine app rfl _ _ rfl w.heap.size _ [] rfl oy _ n1 c1 x1 rfl (H1.out.ext qy) (by simp; omega) qy.size ?_
          intro v' w' o' b'
          clear j0 j1 j2
          go_wp2_with fail
          go_roundw
          case rel => exact ⟨x1, o', Below.trans qy b', .inr (.inl ⟨rfl, rfl⟩)⟩
          case measure => simp [intOf]
        · go_wp2_with (at_builtin; refine Halt.out ?_)
          refine Halt.mk ?_
          refine app rfl _ _ rfl w.heap.size _ _ rfl oy _ n2 c2 x2 rfl (H2.out.ext qy) (by rw [H1.out.len]; omega) qy.size ?_
          intro v' w' o' b'
          clear j0 j1 j2
          go_wp2_with fail
          go_roundw
          case rel => exact ⟨_, o', Below.trans qy b', .inr (.inr (.inl ⟨rfl, rfl⟩))⟩
          case measure => simp [intOf]
        · go_wp2_with (at_builtin; refine Halt.out ?_)
          refine Halt.mk ?_
          refine app rfl _ _ rfl w.heap.size _ _ rfl oy _ n3 c3 x3 rfl (H3.out.ext qy) (by rw [List.length_append, H1.out.len, H2.out.len]; omega) qy.size ?_
          intro v' w' o' b'
          clear j0 j1 j2
          go_wp2_with fail
          go_roundw
          case rel => exact ⟨_, o', Below.trans qy b', .inr (.inr (.inr ⟨rfl, rfl⟩))⟩
          case measure => simp [intOf]
        · clear j0 j1 j2
          go_wp2_with fail
          go_ret
          exact ⟨_, rfl, oy, qy⟩

set_option maxRecDepth 100000 in
set_option maxHeartbeats 2000000 in
theorem over_any (a1 : Option Addr) (n1 c1 : Nat) (x1 : List Int) (a2 : Option Addr) (n2 c2 : Nat) (x2 : List Int) (k n : Int) (w : World) (h1 : Ints .u8 w a1 n1 x1) (h2 : Ints .u8 w a2 n2 x2) (b1 : Pl.IsB x1) (b2 : Pl.IsB x2) (hn : n1 + n2 ≤ 100) :
    Calls Tryz.prog 54 #[.slice a1 n1 c1, .slice a2 n2 c2, .int .i64 k, .int .i64 n] w fun e w' =>
      e = .returned (.tuple #[.int .i64 (bO (okO k n) (Pl.fold (Pl.raw 0 (x1 ++ x2 ++ Pl.two [k, n])))), erv (eO (okO k n))]) ∧ Ext w w' := by
  have H1 := Lib.hid h1
  have H2 := Lib.hid h2
  have HB1 := Lib.hid b1
  have HB2 := Lib.hid b2
  clear h1 h2 b1 b2
  by_cases hk : 0 ≤ k ∧ k ≤ 255
  case neg =>
    have ho : okO k n = false := by
      cases h : w8 k
      · unfold okO; rw [h]; rfl
      · exact absurd (w8_yes h) hk
    rw [ho]
    clear ho
    by_cases hk0 : k < 0
    · clear hk
      go_enter Tryz.func54, Tryz.ntmps54
      go_wp2_with fail
      go_ret2
      exact ⟨rfl, Ext.refl _⟩
    · have hk1 : 255 < k := by omega
      clear hk
      go_enter Tryz.func54, Tryz.ntmps54
      go_wp2_with fail
      go_ret2
      exact ⟨rfl, Ext.refl _⟩
  obtain ⟨k0, k1⟩ := hk
  have hw8 : w8 k = true := by unfold w8; simp [k0, k1]
  by_cases g0 : 0 ≤ n
  case neg =>
    have ho : okO k n = false := by unfold okO; simp [g0]
    rw [ho]
    clear ho hw8
    go_enter Tryz.func54, Tryz.ntmps54
    go_wp2_with fail
    go_ret2
    exact ⟨rfl, Ext.refl _⟩
  by_cases g1 : n ≤ 320
  case neg =>
    have ho : okO k n = false := by unfold okO; simp [g1]
    rw [ho]
    clear ho hw8
    go_enter Tryz.func54, Tryz.ntmps54
    go_wp2_with fail
    go_ret2
    exact ⟨rfl, Ext.refl _⟩
  have ho : okO k n = true := by unfold okO; rw [hw8]; simp [g0, g1]
  rw [ho]
  have htwo : Pl.two [k, n] = [0, k, n / 256, n % 256] := by
    simp [Pl.two]
    omega
  rw [htwo]
  have e1 : IntKind.u8.wrap k = k := IntWalk.u8_in _ (by omega)
  have e2 : IntKind.u8.wrap (n / 256) = n / 256 := IntWalk.u8_in _ (by omega)
  have e3 : IntKind.u8.wrap n = n % 256 := by rw [IntKind.wrap_u8]
  clear ho hw8 htwo
  go_enter Tryz.func54, Tryz.ntmps54
  go_wp2_with fail
  refine (concat3 (w.heap.size + 1) a1 n1 c1 x1 a2 n2 c2 x2 (some ⟨w.heap.size, 0, none⟩) 4 4 [0, k, n / 256, n % 256] _ (Blk.at _ _ _ (by simp)) (H1.out.ext (((Ext.refl w).alloc _).alloc _)) (H2.out.ext (((Ext.refl w).alloc _).alloc _)) ((ints_new w _ _ _ _ _ rfl).ext ((Ext.refl _).alloc _)) (by omega)).mono ?_
  rintro e W1 ⟨v, rfl, o1, q1⟩
  have E1 : Ext w W1 := (((Ext.refl w).alloc _).alloc _).trans q1
  obtain ⟨a3, n3, c3, rfl, _, r3⟩ := o1.read
  have hn3 : n3 ≤ 65536 := by rw [← r3.len, List.length_append, List.length_append, H1.out.len, H2.out.len]; simp; omega
  clear o1 q1
  go_wp2_with fail
  refine (raw_any a3 n3 c3 _ W1 r3 ((HB1.out.append HB2.out).append (fun x hx => by simp only [List.mem_cons, List.not_mem_nil, or_false] at hx; rcases hx with rfl | rfl | rfl | rfl <;> omega)) hn3).mono ?_
  rintro e w' ⟨rfl, rfl⟩
  go_wp2_with fail
  go_ret2
  refine ⟨?_, E1⟩
  rw [List.append_assoc]
  rfl
end Go.Proofs.YtbjogkpepfgegaaGreatDoor
namespace Go.Proofs.YtbjogkpepfgegaaGreatDoor
open Go.RowKit
def ok4 (s d k n : Int) : Bool := w32 s && w32 d && okO k n
def val4 (s d k n : Int) : Int := Pl.fold (Pl.raw 0 (Pl.four s ++ Pl.four d ++ Pl.two [k, n]))

set_option maxRecDepth 100000 in
set_option maxHeartbeats 1000000 in
theorem over4_any (s d k n : Int) (w : World) :
    Calls Tryz.prog 36 #[.int .i64 s, .int .i64 d, .int .i64 k, .int .i64 n] w fun e w' => e = .returned (.tuple #[.int .i64 (bO (ok4 s d k n) (val4 s d k n)), erv (eO (ok4 s d k n))]) ∧ Ext w w' := by
  cases hs : w32 s
  case false =>
    have ho : ok4 s d k n = false := by unfold ok4; rw [hs]; rfl
    rw [ho]
    have HS := Lib.hid hs
    clear ho hs
    go_enter Tryz.func36, Tryz.ntmps36
    go_wp2_with fail
    refine (is_any s w).mono ?_
    rintro e w' ⟨rfl, rfl⟩
    rw [HS.out]
    go_wp2_with fail
    go_ret2
    exact ⟨rfl, Ext.refl _⟩
  cases hd : w32 d
  case false =>
    have ho : ok4 s d k n = false := by unfold ok4; rw [hs, hd]; rfl
    rw [ho]
    have HS := Lib.hid hs
    have HD := Lib.hid hd
    clear ho hs hd
    go_enter Tryz.func36, Tryz.ntmps36
    go_wp2_with fail
    refine (is_any s w).mono ?_
    rintro e w' ⟨rfl, rfl⟩
    rw [HS.out]
    go_wp2_with fail
    refine (is_any d w).mono ?_
    rintro e w' ⟨rfl, rfl⟩
    rw [HD.out]
    go_wp2_with fail
    go_ret2
    exact ⟨rfl, Ext.refl _⟩
  have ho : ok4 s d k n = okO k n := by unfold ok4; rw [hs, hd]; rfl
  rw [ho]
  obtain ⟨s0, s1⟩ := w32_yes hs
  obtain ⟨d0, d1⟩ := w32_yes hd
  have HS := Lib.hid hs
  have HD := Lib.hid hd
  clear ho hs hd
  go_enter Tryz.func36, Tryz.ntmps36
  go_wp2_with fail
  refine (is_any s w).mono ?_
  rintro e w' ⟨rfl, rfl⟩
  rw [HS.out]
  go_wp2_with fail
  refine (is_any d w).mono ?_
  rintro e w' ⟨rfl, rfl⟩
  rw [HD.out]
  go_wp2_with fail
  refine (raw4_any s w s0 s1).mono ?_
  rintro e W1 ⟨v1, rfl, o1, q1⟩
  obtain ⟨a1, n1, c1, rfl, _, r1⟩ := o1.read
  have h1 : 4 = n1 := r1.len
  go_wp2_with fail
  refine (raw4_any d W1 d0 d1).mono ?_
  rintro e W2 ⟨v2, rfl, o2, q2⟩
  obtain ⟨a2, n2, c2, rfl, _, r2⟩ := o2.read
  have h2 : 4 = n2 := r2.len
  have E2 : Ext w W2 := Ext.trans q1 q2
  go_wp2_with fail
  refine (over_any a1 n1 c1 (Pl.four s) a2 n2 c2 (Pl.four d) k n W2 (r1.ext q2) r2 (Pl.four_isB s0 s1) (Pl.four_isB d0 d1) (by omega)).mono ?_
  rintro e W3 ⟨rfl, q3⟩
  have hv : Pl.fold (Pl.raw 0 (Pl.four s ++ Pl.four d ++ Pl.two [k, n])) = val4 s d k n := rfl
  rw [hv]
  go_wp2_with fail
  go_ret2
  exact ⟨rfl, E2.trans q3⟩

end Go.Proofs.YtbjogkpepfgegaaGreatDoor
