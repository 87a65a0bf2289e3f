/- The law AddrReads, where the arguments are together of bulk at most 1048576: any addresses as texts, any texts as addresses. Conditions: the row's own: that bulk; the library's tables, sentinels and errors.errorType hold what the row lists (tied). -/
import Derived.Test.YtonjifkjammopaaGreatDoorSix
import Derived.KernelRfl
import Derived.Test.YtonjifkjammopaaGreatDoorAddr
import Derived.Test.YtonjifkjammopaaGreatDoorFrame
import Derived.Deep.Slices
import Derived.Test.YtonjifkjammopaaGreatDoorRows
import Derived.Test.YtonjifkjammopaaGreatDoorPu
import Derived.LaidLaws
import Derived.FnData
import Derived.Shelf.Vars
import Derived.Lay
import Derived.ChangeMaps5
import Derived.SevenTiedAt
import Derived.Deep.DeepWitnessRowRef
import Derived.Deep.DeepHandedRow
import Derived.Test.YtonjifkjammopaaGreatDoorErr
import Derived.ChangeSame
import Derived.ChangeVars
import Derived.JoinedOf
import Derived.LaidHandle
import Derived.Stop.Joined
import Derived.Test.YtonjifkjammopaaGreatDoorARead
import Derived.Test.YtonjifkjammopaaGreatDoorTie
import Derived.Test.YtonjifkjammopaaGreatDoorCards
import Derived.Lib.LaidTab
/- The contract of bind.Check: is a flow one? Conditions: as each theorem states them. -/
namespace Go.Proofs.YtonjifkjammopaaGreatDoor
open Go.RowKit

/-- Who talks to whom. -/
structure Flow where
  kind : Int
  client : Six
  port : Int
  dst : Six
  door : Int
def Flow.cells (f : Flow) : Array Value := #[.int .i64 f.kind, .int .i64 f.client.x0, .int .i64 f.client.x1, .int .i64 f.client.x2, .int .i64 f.client.x3, .int .i64 f.client.x4, .int .i64 f.client.x5, .int .i64 f.client.x6, .int .i64 f.client.x7, .int .i64 f.port, .int .i64 f.dst.x0, .int .i64 f.dst.x1, .int .i64 f.dst.x2, .int .i64 f.dst.x3, .int .i64 f.dst.x4, .int .i64 f.dst.x5, .int .i64 f.dst.x6, .int .i64 f.dst.x7, .int .i64 f.door]
abbrev Flow.v (f : Flow) : Value := .agg f.cells
def Flow.Ok (f : Flow) : Prop := (f.kind = 6 ∨ f.kind = 17) ∧ f.client.Ok ∧ f.dst.Ok ∧ (0 ≤ f.port ∧ f.port ≤ 65535) ∧ (0 ≤ f.door ∧ f.door ≤ 65535)

section
variable {w : World} {g : Nat} {t : TypeId} {f : Flow}
theorem Blk.fclient (h : Blk w g t f.cells) : (Instr.loadAt 23 (.pointer (some ⟨g, 1, none⟩))).run Tryz.prog w = .ok (.agg f.client.cells) w :=
  h.six 1 f.client fun j hj => by
    have h : j = 0 ∨ j = 1 ∨ j = 2 ∨ j = 3 ∨ j = 4 ∨ j = 5 ∨ j = 6 ∨ j = 7 := by omega
    rcases h with rfl | rfl | rfl | rfl | rfl | rfl | rfl | rfl <;> rfl
theorem Blk.fdst (h : Blk w g t f.cells) : (Instr.loadAt 23 (.pointer (some ⟨g, 10, none⟩))).run Tryz.prog w = .ok (.agg f.dst.cells) w :=
  h.six 10 f.dst fun j hj => by
    have h : j = 0 ∨ j = 1 ∨ j = 2 ∨ j = 3 ∨ j = 4 ∨ j = 5 ∨ j = 6 ∨ j = 7 := by omega
    rcases h with rfl | rfl | rfl | rfl | rfl | rfl | rfl | rfl <;> rfl
theorem Blk.fnums (h : Blk w g t f.cells) : w.cell? ⟨g, 0, none⟩ = some (.int .i64 f.kind) ∧ w.cell? ⟨g, 9, none⟩ = some (.int .i64 f.port) ∧ w.cell? ⟨g, 18, none⟩ = some (.int .i64 f.door) := ⟨h.cells 0, h.cells 9, h.cells 18⟩
theorem Blk.ints_client (h : Blk w g t f.cells) : Ints .i64 w (some ⟨g, 1, none⟩) 8 f.client.l :=
  h.ints rfl fun i hi => by
    have h : i = 0 ∨ i = 1 ∨ i = 2 ∨ i = 3 ∨ i = 4 ∨ i = 5 ∨ i = 6 ∨ i = 7 := by omega
    rcases h with rfl | rfl | rfl | rfl | rfl | rfl | rfl | rfl <;> rfl
theorem Blk.ints_dst (h : Blk w g t f.cells) : Ints .i64 w (some ⟨g, 10, none⟩) 8 f.dst.l :=
  h.ints rfl fun i hi => by
    have h : i = 0 ∨ i = 1 ∨ i = 2 ∨ i = 3 ∨ i = 4 ∨ i = 5 ∨ i = 6 ∨ i = 7 := by omega
    rcases h with rfl | rfl | rfl | rfl | rfl | rfl | rfl | rfl <;> rfl
end

theorem check6_ok (s : Six) (w : World) (h : s.Ok) : Calls Tryz.prog 8 #[s.v] w fun e w' => e = .returned .nilIface ∧ Ext w w' :=
  (check6_any s w).mono fun _ _ ⟨he, hx⟩ => ⟨by rw [he, wordsErr_yes h], hx⟩
theorem Six.bad {s : Six} (h : ¬ s.Ok) : words s.l = false := by
  unfold Six.Ok at h
  simpa using h
theorem check6_bad (s : Six) (w : World) (h : ¬ s.Ok) : Calls Tryz.prog 8 #[s.v] w fun e w' => e = .returned (errv 1) ∧ Ext w w' :=
  (check6_any s w).mono fun _ _ ⟨he, hx⟩ => ⟨by rw [he, wordsErr_no (Six.bad h)], hx⟩

end Go.Proofs.YtonjifkjammopaaGreatDoor
/- Plain laws of the choice of a server (no program in sight): who is best of a list, and that it stays so in another order, or without one that is not it. Conditions: as each lemma states them. -/
namespace Go.Proofs.YtonjifkjammopaaGreatDoor.Pl

/-- A server. -/
structure Back where
  id : Int
  addr : Int
  door : Int
  weight : Int
  up : Bool
  drain : Bool

/-- May it be picked? -/
def Elig (b : Back) : Prop := b.up = true ∧ b.drain = false ∧ b.weight ≠ 0
instance (b : Back) : Decidable (Elig b) := by unfold Elig; infer_instance
/-- Is b better than c? -/
def Beats (sc : Back → Int) (c b : Back) : Prop := sc c < sc b ∨ (sc c = sc b ∧ b.id < c.id)
instance (sc : Back → Int) (c b : Back) : Decidable (Beats sc c b) := by unfold Beats; infer_instance
def step (sc : Back → Int) (cur : Option Back) (b : Back) : Option Back :=
  if Elig b then (match cur with | none => some b | some c => if Beats sc c b then some b else some c) else cur
def best (sc : Back → Int) (l : List Back) : Option Back := l.foldl (step sc) none

theorem snoc_ind {α : Type} {P : List α → Prop} (h0 : P []) (hs : ∀ l a, P l → P (l ++ [a])) (l : List α) : P l := by
  rw [← List.reverse_reverse l]
  generalize l.reverse = m
  induction m with
  | nil => exact h0
  | cons a r ih => rw [List.reverse_cons]; exact hs _ _ ih

theorem best_snoc (sc : Back → Int) (l : List Back) (b : Back) : best sc (l ++ [b]) = step sc (best sc l) b := by simp [best]

theorem best_spec (sc : Back → Int) (l : List Back) : (best sc l = none ∧ ∀ y ∈ l, ¬ Elig y) ∨ ∃ x, x ∈ l ∧ best sc l = some x ∧ Elig x ∧ ∀ y ∈ l, Elig y → ¬ Beats sc x y := by
  refine snoc_ind (P := fun l => (best sc l = none ∧ ∀ y ∈ l, ¬ Elig y) ∨ ∃ x, x ∈ l ∧ best sc l = some x ∧ Elig x ∧ ∀ y ∈ l, Elig y → ¬ Beats sc x y) (.inl ⟨rfl, fun _ h => by cases h⟩) (fun l b ih => ?_) l
  · rw [best_snoc]
    unfold step
    by_cases he : Elig b
    · rw [if_pos he]
      rcases ih with ⟨h0, hn⟩ | ⟨x, hx, h0, hex, hbx⟩
      · rw [h0]
        refine .inr ⟨b, by simp, rfl, he, fun y hy hey => ?_⟩
        rcases List.mem_append.1 hy with hy | hy
        · exact absurd hey (hn y hy)
        · rw [List.mem_singleton.1 hy]
          unfold Beats
          omega
      · rw [h0]
        by_cases hb : Beats sc x b
        · simp only [if_pos hb]
          refine .inr ⟨b, by simp, rfl, he, fun y hy hey => ?_⟩
          rcases List.mem_append.1 hy with hy | hy
          · have := hbx y hy hey
            unfold Beats at *
            omega
          · rw [List.mem_singleton.1 hy]
            unfold Beats
            omega
        · simp only [if_neg hb]
          refine .inr ⟨x, by simp [hx], rfl, hex, fun y hy hey => ?_⟩
          rcases List.mem_append.1 hy with hy | hy
          · exact hbx y hy hey
          · rw [List.mem_singleton.1 hy]; exact hb
    · rw [if_neg he]
      rcases ih with ⟨h0, hn⟩ | ⟨x, hx, h0, hex, hbx⟩
      · refine .inl ⟨h0, fun y hy => ?_⟩
        rcases List.mem_append.1 hy with hy | hy
        · exact hn y hy
        · rw [List.mem_singleton.1 hy]; exact he
      · refine .inr ⟨x, by simp [hx], h0, hex, fun y hy hey => ?_⟩
        rcases List.mem_append.1 hy with hy | hy
        · exact hbx y hy hey
        · rw [List.mem_singleton.1 hy] at hey; exact absurd hey he

/-- No two have one ID. -/
def Apart (l : List Back) : Prop := l.Pairwise fun a b => a.id ≠ b.id

theorem Apart.eq {l : List Back} (h : Apart l) : ∀ {x y : Back}, x ∈ l → y ∈ l → x.id = y.id → x = y := by
  induction l with
  | nil => intro x y hx; cases hx
  | cons z r ih =>
    intro x y hx hy hxy
    rw [Apart, List.pairwise_cons] at h
    rcases List.mem_cons.1 hx with hx1 | hx1
    · rcases List.mem_cons.1 hy with hy1 | hy1
      · rw [hx1, hy1]
      · rw [hx1] at hxy; exact absurd hxy (h.1 y hy1)
    · rcases List.mem_cons.1 hy with hy1 | hy1
      · rw [hy1] at hxy; exact absurd hxy.symm (h.1 x hx1)
      · exact ih h.2 hx1 hy1 hxy

/-- Of fewer, or in another order, it is the same. -/
theorem best_sub {sc : Back → Int} {l m : List Back} {x : Back} (ha : Apart l) (hl : best sc l = some x) (hm : ∀ y ∈ m, y ∈ l) (hx : x ∈ m) : best sc m = some x := by
  rcases best_spec sc l with ⟨h0, _⟩ | ⟨x1, hx1, h1, he1, hb1⟩
  · rw [h0] at hl; cases hl
  · obtain rfl : x1 = x := by rw [h1] at hl; exact Option.some.inj hl
    rcases best_spec sc m with ⟨_, hn⟩ | ⟨x2, hx2, h2, he2, hb2⟩
    · exact absurd he1 (hn _ hx)
    · rw [h2]
      have q1 := hb1 x2 (hm _ hx2) he2
      have q2 := hb2 x1 hx he1
      have : x1.id = x2.id := by unfold Beats at *; omega
      rw [ha.eq (hm _ hx2) hx1 this.symm]
theorem best_mem {sc : Back → Int} {l : List Back} {x : Back} (hl : best sc l = some x) : x ∈ l ∧ Elig x := by
  rcases best_spec sc l with ⟨h0, _⟩ | ⟨x1, hx1, h1, he1, _⟩
  · rw [h0] at hl; cases hl
  · obtain rfl : x1 = x := by rw [h1] at hl; exact Option.some.inj hl
    exact ⟨hx1, he1⟩

theorem Apart.reverse {l : List Back} (h : Apart l) : Apart l.reverse := by
  unfold Apart at *
  rw [List.pairwise_reverse]
  exact h.imp fun hab => fun e => hab e.symm
theorem Apart.sub {l m : List Back} (h : Apart l) (hs : m.Sublist l) : Apart m := List.Pairwise.sublist hs h

/-- All but one. -/
def less (l : List Back) (k : Nat) : List Back := l.take k ++ l.drop (k + 1)
theorem less_sub (l : List Back) (k : Nat) : (less l k).Sublist l := by
  have h : (l.take k ++ l.drop (k + 1)).Sublist (l.take k ++ l.drop k) := List.Sublist.append (List.Sublist.refl _) (List.drop_sublist_drop_left l (Nat.le_succ k))
  rw [List.take_append_drop] at h
  exact h
theorem less_mem {l : List Back} (k : Nat) {x z : Back} (hk : l[k]? = some z) (hx : x ∈ l) (hne : x ≠ z) : x ∈ less l k := by
  obtain ⟨j, hj, rfl⟩ := List.mem_iff_getElem.1 hx
  obtain ⟨hk', rfl⟩ := List.getElem?_eq_some_iff.1 hk
  unfold less
  rcases Nat.lt_trichotomy j k with h | h | h
  · exact List.mem_append_left _ (List.mem_take_iff_getElem.2 ⟨j, by omega, rfl⟩)
  · subst h; exact absurd rfl hne
  · refine List.mem_append_right _ (List.mem_drop_iff_getElem.2 ⟨j - (k + 1), by omega, ?_⟩)
    congr 1
    omega
/-- Who is taken out has no other of its ID left. -/
theorem less_not {l : List Back} (ha : Apart l) (k : Nat) {z y : Back} (hk : l[k]? = some z) (hy : y ∈ less l k) : y.id ≠ z.id := by
  obtain ⟨hk', rfl⟩ := List.getElem?_eq_some_iff.1 hk
  unfold Apart at ha
  rw [List.pairwise_iff_getElem] at ha
  unfold less at hy
  rcases List.mem_append.1 hy with h | h
  · obtain ⟨j, hj, rfl⟩ := List.mem_take_iff_getElem.1 h
    exact ha j k (by omega) hk' (by omega)
  · obtain ⟨j, hj, rfl⟩ := List.mem_drop_iff_getElem.1 h
    exact fun e => ha k (k + 1 + j) hk' (by omega) (by omega) e.symm
end Go.Proofs.YtonjifkjammopaaGreatDoor.Pl
/- A list of servers in memory, and the contract of pick.Check. Conditions: as each theorem states them. -/
namespace Go.Proofs.YtonjifkjammopaaGreatDoor
open Go.RowKit
namespace Pl
def back0 : Back := ⟨0, 0, 0, 0, false, false⟩
/-- May a server's numbers be? -/
def Back.Num (b : Back) : Prop := (0 ≤ b.id ∧ b.id ≤ 65535) ∧ (0 ≤ b.door ∧ b.door ≤ 65535) ∧ (0 ≤ b.addr ∧ b.addr < 4294967296) ∧ (0 ≤ b.weight ∧ b.weight ≤ 10)
end Pl
abbrev backv (b : Pl.Back) : Value := .agg #[.int .i64 b.id, .int .i64 b.addr, .int .i64 b.door, .int .i64 b.weight, .bool b.up, .bool b.drain]

/-- A slice's value shows these servers. -/
def Backs (w : World) (a : Option Addr) (n : Nat) (bs : List Pl.Back) : Prop :=
  bs.length = n ∧ (n = 0 ∨ ∃ b off, a = some ⟨b, off, none⟩ ∧ ∀ i, i < n →
    w.cell? ⟨b, off + i * 6, none⟩ = some (.int .i64 (bs.getD i Pl.back0).id) ∧ w.cell? ⟨b, off + i * 6 + 1, none⟩ = some (.int .i64 (bs.getD i Pl.back0).addr) ∧
    w.cell? ⟨b, off + i * 6 + 2, none⟩ = some (.int .i64 (bs.getD i Pl.back0).door) ∧ w.cell? ⟨b, off + i * 6 + 3, none⟩ = some (.int .i64 (bs.getD i Pl.back0).weight) ∧
    w.cell? ⟨b, off + i * 6 + 4, none⟩ = some (.bool (bs.getD i Pl.back0).up) ∧ w.cell? ⟨b, off + i * 6 + 5, none⟩ = some (.bool (bs.getD i Pl.back0).drain))

namespace Pl
/-- Nothing is wrong with the server at a place. -/
def Fine (bs : List Back) (j : Nat) : Prop := (bs.getD j back0).Num ∧ ∀ m, m < j → (bs.getD m back0).id ≠ (bs.getD j back0).id
end Pl
/-- What Check gives of servers that are not too many. -/
def PRes (bs : List Pl.Back) (e : Ending) : Prop := ∃ i : Nat, (∀ j, j < i → Pl.Fine bs j) ∧
  ((i = bs.length ∧ e = .returned (.tuple #[.int .i64 0, .nilIface])) ∨ (i < bs.length ∧ ¬ (bs.getD i Pl.back0).Num ∧ e = .returned (.tuple #[.int .i64 i, errv 1])) ∨
    (i < bs.length ∧ (bs.getD i Pl.back0).Num ∧ (∃ m, m < i ∧ (bs.getD m Pl.back0).id = (bs.getD i Pl.back0).id) ∧ e = .returned (.tuple #[.int .i64 i, errv 8])))

theorem Backs.at {w w' : World} {a : Option Addr} {n : Nat} {bs : List Pl.Back} (h : Backs w a n bs) (hE : Ext w w') (hn : 0 < n) : ∃ b off, a = some ⟨b, off, none⟩ ∧ b < w.heap.size ∧ ∀ i, i < n →
    w'.cell? ⟨b, off + i * 6, none⟩ = some (.int .i64 (bs.getD i Pl.back0).id) ∧ w'.cell? ⟨b, off + i * 6 + 1, none⟩ = some (.int .i64 (bs.getD i Pl.back0).addr) ∧
    w'.cell? ⟨b, off + i * 6 + 2, none⟩ = some (.int .i64 (bs.getD i Pl.back0).door) ∧ w'.cell? ⟨b, off + i * 6 + 3, none⟩ = some (.int .i64 (bs.getD i Pl.back0).weight) ∧
    w'.cell? ⟨b, off + i * 6 + 4, none⟩ = some (.bool (bs.getD i Pl.back0).up) ∧ w'.cell? ⟨b, off + i * 6 + 5, none⟩ = some (.bool (bs.getD i Pl.back0).drain) := by
  rcases h.2 with h0 | ⟨b, off, rfl, hc⟩
  · omega
  · have hb : b < w.heap.size := World.block_lt_of_cell? w _ (hc 0 hn).1
    refine ⟨b, off, rfl, hb, fun i hi => ?_⟩
    obtain ⟨h0, h1, h2, h3, h4, h5⟩ := hc i hi
    have q : ∀ o, w'.cell? ⟨b, o, none⟩ = w.cell? ⟨b, o, none⟩ := fun o => Below.cell hE (p := ⟨b, o, none⟩) hb
    exact ⟨(q _).trans h0, (q _).trans h1, (q _).trans h2, (q _).trans h3, (q _).trans h4, (q _).trans h5⟩
theorem Backs.ext {w w' : World} {a : Option Addr} {n : Nat} {bs : List Pl.Back} (h : Backs w a n bs) (hE : Ext w w') : Backs w' a n bs := by
  refine ⟨h.1, ?_⟩
  rcases Nat.eq_zero_or_pos n with h0 | h0
  · exact .inl h0
  · obtain ⟨b, off, rfl, _, hc⟩ := h.at hE h0
    exact .inr ⟨b, off, rfl, hc⟩

end Go.Proofs.YtonjifkjammopaaGreatDoor
/- What an argument is, once it is read: addresses, flows, lists of servers. Conditions: as each lemma states them. -/
namespace Go.Proofs.YtonjifkjammopaaGreatDoor
open Go.ChangeShapes Go.WideShapes Go.ChangeAt Go.RowKit

def Six.Is (s : Six) : Prop := ∀ k, IsInt (s.l.getD k 0)

section
variable {H : Type} {enc : TypeId × Value → H} {W : World}

theorem open_cell_int {n : Nat} {c : Value} {y : Option (DataW H × List MemPlace)} (hy : y.isSome = true) (h : DataW.trod enc Tryz.prog W 0 (fun _ => true) true n 3 [c] = y) : ∃ x, c = .int .i64 x ∧ IsInt x := by
  obtain ⟨y, rfl⟩ := Option.isSome_iff_exists.1 hy
  obtain ⟨x, hx, _, hw⟩ := DataW.trod_int Tryz.underlying3 h
  exact ⟨x, by simpa using hx, wf_i64 hw⟩
theorem open_cell_bool {n : Nat} {c : Value} {y : Option (DataW H × List MemPlace)} (hy : y.isSome = true) (h : DataW.trod enc Tryz.prog W 0 (fun _ => true) true n 4 [c] = y) : ∃ x, c = .bool x := by
  obtain ⟨y, rfl⟩ := Option.isSome_iff_exists.1 hy
  obtain ⟨x, hx, _⟩ := DataW.trod_bool Tryz.underlying4 h
  exact ⟨x, by simpa using hx⟩
theorem isSome_at {α : Type} {xs : List α} {n j : Nat} (h : xs.length = n) (hj : j < n) : (xs[j]?).isSome = true := by
  rw [List.getElem?_eq_getElem (by omega)]; rfl

theorem Tryz.cellsInt : Tryz.prog.cellsOf 3 = 1 := by kernel_rfl
theorem Tryz.cellsSix : Tryz.prog.cellsOf 23 = 8 := by kernel_rfl
theorem Tryz.cellsBool : Tryz.prog.cellsOf 4 = 1 := by kernel_rfl
set_option maxRecDepth 100000 in
theorem open_cells_six {n : Nat} {cs : List Value} {y : Option (DataW H × List MemPlace)} (hy : y.isSome = true) (h : DataW.trod enc Tryz.prog W 0 (fun _ => true) true n 23 cs = y) : ∃ s : Six, cs = s.cells.toList ∧ s.Is := by
  obtain ⟨y, rfl⟩ := Option.isSome_iff_exists.1 hy
  obtain ⟨xs, m, _, _, hl, hlen, hg⟩ := DataW.trod_array Tryz.underlying23 h
  match cs, hl.trans Tryz.cellsSix with
  | [c0, c1, c2, c3, c4, c5, c6, c7], _ =>
    obtain ⟨x0, rfl, i0⟩ := open_cell_int (isSome_at (j := 0) hlen (by omega)) (by simpa [Tryz.cellsInt] using hg 0 (by omega))
    obtain ⟨x1, rfl, i1⟩ := open_cell_int (isSome_at (j := 1) hlen (by omega)) (by simpa [Tryz.cellsInt] using hg 1 (by omega))
    obtain ⟨x2, rfl, i2⟩ := open_cell_int (isSome_at (j := 2) hlen (by omega)) (by simpa [Tryz.cellsInt] using hg 2 (by omega))
    obtain ⟨x3, rfl, i3⟩ := open_cell_int (isSome_at (j := 3) hlen (by omega)) (by simpa [Tryz.cellsInt] using hg 3 (by omega))
    obtain ⟨x4, rfl, i4⟩ := open_cell_int (isSome_at (j := 4) hlen (by omega)) (by simpa [Tryz.cellsInt] using hg 4 (by omega))
    obtain ⟨x5, rfl, i5⟩ := open_cell_int (isSome_at (j := 5) hlen (by omega)) (by simpa [Tryz.cellsInt] using hg 5 (by omega))
    obtain ⟨x6, rfl, i6⟩ := open_cell_int (isSome_at (j := 6) hlen (by omega)) (by simpa [Tryz.cellsInt] using hg 6 (by omega))
    obtain ⟨x7, rfl, i7⟩ := open_cell_int (isSome_at (j := 7) hlen (by omega)) (by simpa [Tryz.cellsInt] using hg 7 (by omega))
    refine ⟨⟨x0, x1, x2, x3, x4, x5, x6, x7⟩, rfl, fun k => ?_⟩
    match k with
    | 0 => exact i0
    | 1 => exact i1
    | 2 => exact i2
    | 3 => exact i3
    | 4 => exact i4
    | 5 => exact i5
    | 6 => exact i6
    | 7 => exact i7
    | k + 8 => simp [Six.l, IsInt]

set_option maxRecDepth 100000 in
/-- An address that came in. -/
theorem open_six {v : Value} {d : DataW H} {p : List MemPlace} {base : Nat} (hv : Value.okWide Tryz.prog W .any base 23 v) (h : DataW.Trod enc Tryz.prog W 0 (fun _ => true) true 23 v d p) : ∃ s : Six, v = s.v ∧ s.Is := by
  obtain ⟨fuel, hf⟩ := h
  obtain ⟨s, hs, hi⟩ := open_cells_six rfl hf
  simp only [Value.okWide, Tryz.underlying23] at hv
  obtain ⟨cs, rfl, _⟩ := hv
  refine ⟨s, ?_, hi⟩
  have : cs.toList = s.cells.toList := by simpa [Value.cells] using hs
  rw [Array.toList_inj.1 this]

def Flow.Is (f : Flow) : Prop := IsInt f.kind ∧ f.client.Is ∧ IsInt f.port ∧ f.dst.Is ∧ IsInt f.door
/-- Servers that came in. -/
def IsBacks (w : World) (a : Option Addr) (n c : Nat) (bs : List Pl.Back) : Prop := Backs w a n bs ∧ n ≤ c ∧ c ≤ maxLen
end
end Go.Proofs.YtonjifkjammopaaGreatDoor
/- Variables that a row lists: tables, sentinels. Conditions: as each lemma states them. -/
namespace Go.Proofs.YtonjifkjammopaaGreatDoor
open Go.ChangeShapes Go.WideShapes Go.ChangeAt Go.RowKit Go.ChangeMaps
theorem laid_mem {P : Program} {w : World} : ∀ {l : List (String × DataW Unit)} {ps : List MemPlace}, DataW.LaidVars P w l ps → ∀ {n : String} {d : DataW Unit}, (n, d) ∈ l →
    ∃ g t cs fuel p, P.globalNamed n = some g ∧ (P.globals[g]?).map (·.type) = some t ∧ w.var? P n = some cs ∧ DataW.trod (fun _ => ()) P w 0 (fun _ => true) false fuel t cs.toList = some (d, p)
  | [], _, _, _, _, hm => by cases hm
  | (n', d') :: r, ps, h, n, d, hm => by
    obtain ⟨g, t, cs, fuel, p, q, h1, h2, h3, h4, h5, _⟩ := h
    rcases List.mem_cons.1 hm with he | hm
    · cases he
      exact ⟨g, t, cs, fuel, p, h1, h2, h3, h4⟩
    · exact laid_mem h5 hm
theorem laid_tab {w : World} {name : String} {k : IntKind} {zs : List Int} {l : List (String × DataW Unit)} {ps : List MemPlace} {g : Nat} {t e : TypeId} {n : Nat}
    (hg : Tryz.prog.globalNamed name = some g) (hty : (Tryz.prog.globals[g]?).map (·.type) = some t) (ht : Tryz.prog.underlying t = some (.array n e)) (he : Tryz.prog.underlying e = some (.int k)) (hce : Tryz.prog.cellsOf e = 1) (hct : Tryz.prog.cellsOf t = n)
    (h : DataW.LaidVars Tryz.prog w l ps) (hm : (name, Lib.tabData k zs) ∈ l) : Lib.TabIs Tryz.prog w name k zs := by
  obtain ⟨g', t', cs, fuel, p, hg', ht', hvar, hd⟩ := laid_mem h hm
  obtain rfl := Option.some.inj (hg.symm.trans hg')
  obtain rfl := Option.some.inj (hty.symm.trans ht')
  unfold Lib.TabIs
  rw [hvar, ← Lib.cells_of_tab ht he hce hct hd]
theorem laid_err {w : World} {name nm : String} {d : DataW Unit} {l : List (String × DataW Unit)} {ps : List MemPlace} {g : Nat} {t : TypeId} {ms : Array (String × TypeId)}
    (hg : Tryz.prog.globalNamed name = some g) (hty : (Tryz.prog.globals[g]?).map (·.type) = some t) (ht : Tryz.prog.underlying t = some (.interface ms))
    (h : DataW.LaidVars Tryz.prog w l ps) (hm : (name, DataW.iface nm d) ∈ l) : ∃ u v, w.cell? ⟨g, 0, none⟩ = some (.iface u v) := by
  obtain ⟨g', t', cs, fuel, p, hg', ht', hvar, hd⟩ := laid_mem h hm
  obtain rfl := Option.some.inj (hg.symm.trans hg')
  obtain rfl := Option.some.inj (hty.symm.trans ht')
  obtain ⟨_, u, v, hcs, _, _⟩ := iface_of_trod ht hd
  refine ⟨u, v, ?_⟩
  have := World.var?_cell hg hvar 0
  rw [this, ← Array.getElem?_toList, hcs]
  rfl
end Go.Proofs.YtonjifkjammopaaGreatDoor
/- What the condition of a tied row gives: the handle in errors.errorType; a world that meets it. After the kit's worked toy 'toyas'. Conditions: as each lemma states them. -/
namespace Go.Proofs.YtonjifkjammopaaGreatDoor
open Go.ChangeShapes Go.WideShapes Go.ChangeAt Go.RowKit

def laid : List (String × DataW Unit) := [("errors.errorType", Rows.laid_errors_errorType)]
theorem Tryz.et : Tryz.prog.globalNamed "errors.errorType" = some 0 := by kernel_rfl
theorem Tryz.rt : (Tryz.prog.cutTypes.find? (·.1 == "internal/reflectlite.rtype")).map (·.2) = some 104 := by kernel_rfl
theorem Tryz.oneRow : ((List.range 179).filter fun t => Tryz.prog.rowNamed t [101, 114, 114, 111, 114]) = [31] := by kernel_rfl
theorem Tryz.sizeTypes : Tryz.prog.types.size = 179 := by kernel_rfl

theorem handle_of_laid {W : World} (h : laidMetH Tryz.prog laid W) : Handle W := by
  have h' : laidMet Tryz.prog [] W ∧ handlesMet Tryz.prog laid W := h
  obtain ⟨name, u, ty, e1, e2, e3, e4, e5⟩ := h'.2 _ (List.mem_singleton.2 rfl)
  have en : name = [101, 114, 114, 111, 114] := (Option.some.inj e1).symm
  subst en
  obtain rfl := Option.some.inj (Tryz.rt.symm.trans e2)
  have hm : ty ∈ (List.range 179).filter fun t => Tryz.prog.rowNamed t [101, 114, 114, 111, 114] := List.mem_filter.2 ⟨List.mem_range.2 (by rw [← Tryz.sizeTypes]; exact e3), e4⟩
  rw [Tryz.oneRow] at hm
  obtain rfl := List.mem_singleton.1 hm
  have hh : typeHandle Tryz.prog 31 = .pointer (some ⟨9, 31, none⟩) := by kernel_rfl
  rw [hh] at e5
  have := World.var?_cell Tryz.et e5 0
  unfold Handle
  simpa using this

/-- A world that meets the condition: the settled one, the variable's cell laid. -/
noncomputable def laidWorld (os : Os) : World :=
  let w0 := World.holding Tryz.prog os ⟨#[], #[], []⟩
  { w0 with heap := w0.heap.modify 0 fun
      | .cells _ t frozen => .cells #[.iface 104 (.agg #[.pointer (some ⟨9, 31, none⟩)])] t frozen
      | o => o }
theorem laidWorld_met (os : Os) (args : Array Value) : laidMetH Tryz.prog laid ((laidWorld os).forCall (fun _ _ => 0) ⟨#[], args, []⟩).memory :=
  laidMetH_of_parts (laidMet_nil _ _) (by kernel_rfl)
theorem vars_nil {H : Type} {enc : TypeId × Value → H} {W : World} {gs : List (DataW H)} {q : List MemPlace} (hV : DataW.TrodVars enc Tryz.prog W (fun _ => true) [] gs q) : gs = [] ∧ q = [] := by
  cases gs with
  | nil => exact ⟨rfl, hV⟩
  | cons g r => exact absurd hV (by intro h; cases h)
end Go.Proofs.YtonjifkjammopaaGreatDoor
/- What the row of AddrReads lists is what the contracts ask. Conditions: as each lemma states them. -/
namespace Go.Proofs.YtonjifkjammopaaGreatDoor
open Go.ChangeShapes Go.WideShapes Go.ChangeAt Go.RowKit Go.ChangeMaps
/-- The row's list without the handle. -/
def plainL : List (String × DataW Unit) := Rows.addrReadsUptoRow.laid.filter fun x => x.2.handleName?.isNone
theorem parts {w : World} (h : laidMetH Tryz.prog Rows.addrReadsUptoRow.laid w) : laidMet Tryz.prog plainL w ∧ laidMetH Tryz.prog laid w :=
  have h' : laidMet Tryz.prog plainL w ∧ handlesMet Tryz.prog laid w := h
  ⟨h'.1, laidMet_nil _ _, h'.2⟩
theorem tabs_rd {w : World} (hL : laidMet Tryz.prog plainL w) (hS : w.ShapedOpen Tryz.prog) : Tabs w := by
  obtain ⟨ps, hv, _⟩ := hL
  have t1 : Lib.TabIs Tryz.prog w "math/bits.deBruijn64tab" .u8 [0, 1, 56, 2, 57, 49, 28, 3, 61, 58, 42, 50, 38, 29, 17, 4, 62, 47, 59, 36, 45, 43, 51, 22, 53, 39, 33, 30, 24, 18, 12, 5, 63, 55, 48, 27, 60, 41, 37, 16, 46, 35, 44, 21, 52, 32, 23, 11, 54, 26, 40, 15, 34, 20, 31, 10, 25, 14, 19, 9, 13, 8, 7, 6] :=
    laid_tab (g := 8) (by kernel_rfl) (by kernel_rfl) (Tryz.underlying151) Tryz.underlying5 (by kernel_rfl) (by kernel_rfl) hv (List.mem_cons_of_mem _ (List.mem_cons_self ..))
  have t2 : Lib.TabIs Tryz.prog w "internal/strconv.uint64pow10" .u64 Lib.pow10Tab :=
    laid_tab (g := 4) (by kernel_rfl) (by kernel_rfl) (Tryz.underlying136) Tryz.underlying71 (by kernel_rfl) (by kernel_rfl) hv (List.mem_cons_of_mem _ (List.mem_cons_of_mem _ (List.mem_cons_self ..)))
  have t3 := laid_err (g := 3) (by kernel_rfl) (by kernel_rfl) Tryz.underlying31 hv (List.mem_cons_of_mem _ (List.mem_cons_of_mem _ (List.mem_cons_of_mem _ (List.mem_cons_of_mem _ (List.mem_cons_self ..)))))
  have t4 := laid_err (g := 2) (by kernel_rfl) (by kernel_rfl) Tryz.underlying31 hv (List.mem_cons_of_mem _ (List.mem_cons_of_mem _ (List.mem_cons_of_mem _ (List.mem_cons_of_mem _ (List.mem_cons_of_mem _ (List.mem_cons_self ..))))))
  have t5 := cell_of_shapedOpen_int (P := Tryz.prog) (g := 1) (t := 3) (zero := #[.int .i64 0]) hS (of_decide_eq_true (by kernel_rfl)) (by kernel_rfl) rfl (by kernel_rfl) (by kernel_rfl) Tryz.underlying3
  have c1 := t1.cell (g := 8) (by kernel_rfl) 15 (by decide)
  have c2 := t2.cell (g := 4) (by kernel_rfl) 0 (by decide)
  exact ⟨c1, t2, t4, t3, t5, World.block_lt_of_cell? w _ c2⟩
end Go.Proofs.YtonjifkjammopaaGreatDoor
namespace Go.Proofs.YtonjifkjammopaaGreatDoor.addrReads
open Go.ChangeShapes Go.WideShapes Go.ChangeAt Go.RowKit Go.ChangeMaps
theorem walk (a p : Six) (s t : ByteArray) (n k : Int) (w : World) (hL : laidMetH Tryz.prog Rows.addrReadsUptoRow.laid w) (hS : w.ShapedOpen Tryz.prog) (hs : s.size ≤ 1048576) (ht : t.size ≤ 1048576) :
    Calls Tryz.prog 3 #[a.v, .string s, .int .i64 n, .string t, p.v, .int .i64 k] w fun e w' => e = .returned (.bool true) ∧ Below w.heap.size w w' :=
  addrReads_any a p s t n k w (tabs_rd (parts hL).1 hS) (handle_of_laid (parts hL).2) hs ht
/-- The witness' arguments. -/
def args0 : Array Value := #[.agg #[.int .i64 0, .int .i64 0, .int .i64 0, .int .i64 0, .int .i64 0, .int .i64 0, .int .i64 0, .int .i64 0], .string ⟨#[]⟩, .int .i64 0, .string ⟨#[]⟩, .agg #[.int .i64 0, .int .i64 0, .int .i64 0, .int .i64 0, .int .i64 0, .int .i64 0, .int .i64 0, .int .i64 0], .int .i64 0]
/-- A world that meets the condition: the handle laid, then the tables and sentinels. -/
noncomputable def wit (os : Os) : World := (laidWorld os).layVars Tryz.prog plainL
theorem laid_plain (os : Os) : laidMet Tryz.prog plainL (wit os) := by
  have e1 : (plainL.filter fun x => (plainL.map (·.1)).contains x.1) = plainL := List.filter_eq_self.2 fun x hx => List.contains_iff_mem.2 (List.mem_map.2 ⟨x, hx, rfl⟩)
  have e2 : (plainL.filter fun x => !(plainL.map (·.1)).contains x.1) = [] := List.filter_eq_nil_iff.2 fun x hx => by rw [List.contains_iff_mem.2 (List.mem_map.2 ⟨x, hx, rfl⟩)]; simp
  exact laidMet_layVars (w0 := laidWorld os) (plainL.map (·.1)) [] (by rw [e1]; rfl) (by rw [e1]; kernel_rfl) (by rw [e1]; kernel_rfl) (by rw [e2]; exact LaidIn.none)
theorem laid_met (os : Os) : laidMetH Tryz.prog Rows.addrReadsUptoRow.laid ((wit os).forCall (fun _ _ => 0) ⟨#[], args0, []⟩).memory :=
  laidMetH_of_parts ((laid_plain os).of_heap (by simp [World.memory, World.forCall, Input.heap])) (by kernel_rfl)
/-- What the witness reads as. -/
def z6 {H : Type} : DataW H := .agg [.lit (.int .i64 0), .lit (.int .i64 0), .lit (.int .i64 0), .lit (.int .i64 0), .lit (.int .i64 0), .lit (.int .i64 0), .lit (.int .i64 0), .lit (.int .i64 0)]
theorem reads (os : Os) {H : Type} (enc : TypeId × Value → H) : ∃ places, DataW.whole enc Tryz.prog ((wit os).forCall (fun _ _ => 0) ⟨#[], args0, []⟩).memory Tryz.f3.params.toList Rows.addrReadsSpec.vars false args0.toList 8 = some ([z6, .lit (.string []), .lit (.int .i64 0), .lit (.string []), z6, .lit (.int .i64 0)], [], places) :=
  ⟨[], by kernel_rfl⟩
set_option maxRecDepth 100000 in
theorem lifted (os : Os) (started : os.Started) (H : Type) (enc : TypeId × Value → H) (F : Stop.Interp) :
    ReturnsInHanded {} Tryz.checked os 3 .any ((Rows.OpenSpec.upto Rows.addrReadsSpec).preRow enc Tryz.prog Tryz.f3 Rows.addrReadsUptoRow.domain false Rows.addrReadsUptoRow.laid) (((Rows.OpenSpec.upto Rows.addrReadsSpec).at F).post enc Tryz.prog Tryz.f3 false true false false) := by
  obtain ⟨places, hx⟩ := reads os enc
  refine returnsInHanded_of_row (C := Tryz.checked) (s := Rows.OpenSpec.upto Rows.addrReadsSpec) own started (by kernel_rfl) Tryz.func3
    (witness_row_atRef (enc := enc) (C := Tryz.checked) false (wit os) args0 (World.layVars_os _ _ _) (by kernel_rfl) (by kernel_rfl) (by kernel_rfl)
      (OpenSpec.preRow_of_cond 8 hx (by kernel_rfl) (fun k hk => by cases hk; kernel_rfl) (by kernel_rfl) (laid_met os))) ?_
  intro W base args ds gs before hval0 hW _ hcond _ hL hS _
  have hval : ∀ (j : Nat) t v, Tryz.f3.params[j]? = some t → args[j]? = some v → Value.okWide Tryz.prog W .any base t v := hval0
  have hW' := hW
  obtain ⟨p, q, hA0, hV, rfl, hfz, hnd⟩ := hW
  have hA : DataW.TrodAll enc Tryz.prog W 0 (fun _ => true) true Tryz.f3.params.toList args.toList ds p := hA0
  rw [Tryz.params3] at hA hval
  obtain ⟨v0, vs0, d0, ds0, p0, q0, hargs, rfl, rfl, h0, r0⟩ := trodAll_cons hA
  obtain ⟨v1, vs1, d1, ds1, p1, q1, rfl, rfl, rfl, h1, r1⟩ := trodAll_cons r0
  obtain ⟨v2, vs2, d2, ds2, p2, q2, rfl, rfl, rfl, h2, r2⟩ := trodAll_cons r1
  obtain ⟨v3, vs3, d3, ds3, p3, q3, rfl, rfl, rfl, h3, r3⟩ := trodAll_cons r2
  obtain ⟨v4, vs4, d4, ds4, p4, q4, rfl, rfl, rfl, h4, r4⟩ := trodAll_cons r3
  obtain ⟨v5, vs5, d5, ds5, p5, q5, rfl, rfl, rfl, h5, r5⟩ := trodAll_cons r4
  obtain ⟨rfl, rfl, rfl⟩ := trodAll_nil r5
  obtain rfl : args = #[v0, v1, v2, v3, v4, v5] := by cases args; simp_all
  obtain ⟨rfl, rfl⟩ := trodVars_none hV
  have lt0 : ∀ x ∈ p0, x.block < W.heap.size := by obtain ⟨m, hm⟩ := h0; exact DataW.trod_lt m _ _ _ hm
  have lt1 : ∀ x ∈ p1, x.block < W.heap.size := by obtain ⟨m, hm⟩ := h1; exact DataW.trod_lt m _ _ _ hm
  have lt2 : ∀ x ∈ p2, x.block < W.heap.size := by obtain ⟨m, hm⟩ := h2; exact DataW.trod_lt m _ _ _ hm
  have lt3 : ∀ x ∈ p3, x.block < W.heap.size := by obtain ⟨m, hm⟩ := h3; exact DataW.trod_lt m _ _ _ hm
  have lt4 : ∀ x ∈ p4, x.block < W.heap.size := by obtain ⟨m, hm⟩ := h4; exact DataW.trod_lt m _ _ _ hm
  have lt5 : ∀ x ∈ p5, x.block < W.heap.size := by obtain ⟨m, hm⟩ := h5; exact DataW.trod_lt m _ _ _ hm
  have k0 := h0
  have k1 := h1
  have k2 := h2
  have k3 := h3
  have k4 := h4
  have k5 := h5
  have hb : Rows.uptoBulkAll ([d0, d1, d2, d3, d4, d5] ++ []) ≤ 1048576 := of_decide_eq_true (hcond _ rfl)
  obtain ⟨s0, rfl, w0⟩ := open_six (hval 0 23 v0 rfl rfl) h0
  obtain ⟨t1, rfl, hd1, _, w1⟩ := open_string Tryz.underlying9 (hval 1 9 v1 rfl rfl) h1
  obtain ⟨x2, rfl, _, _, w2'⟩ := open_int Tryz.underlying3 (hval 2 3 v2 rfl rfl) h2
  obtain ⟨t3, rfl, hd3, _, w3⟩ := open_string Tryz.underlying9 (hval 3 9 v3 rfl rfl) h3
  obtain ⟨s4, rfl, w4⟩ := open_six (hval 4 23 v4 rfl rfl) h4
  obtain ⟨x5, rfl, _, _, w5'⟩ := open_int Tryz.underlying3 (hval 5 3 v5 rfl rfl) h5
  clear hA0 hval0
  have hsz : t1.size ≤ 1048576 ∧ t3.size ≤ 1048576 := by
    rw [hd1, hd3] at hb
    simp only [List.append_nil, Rows.uptoBulkAll, Rows.uptoBulk] at hb
    rw [Lib.size_eq, Lib.size_eq]
    omega
  refine (walk s0 s4 t1 t3 x2 x5 W hL hS hsz.1 hsz.2).mono fun e W' ⟨he, bel⟩ => ?_
  subst he
  exact ⟨_, rfl, _, _, _, [], _, [], hW', trodAll_mk1 (shut_bool Tryz.underlying4 _), (trodAll_cons_mk (Below.trod laidOut (by kernel_rfl) (of_decide_eq_true (by kernel_rfl)) k0 bel lt0) (trodAll_cons_mk (Below.trod laidOut (by kernel_rfl) (of_decide_eq_true (by kernel_rfl)) k1 bel lt1) (trodAll_cons_mk (Below.trod laidOut (by kernel_rfl) (of_decide_eq_true (by kernel_rfl)) k2 bel lt2) (trodAll_cons_mk (Below.trod laidOut (by kernel_rfl) (of_decide_eq_true (by kernel_rfl)) k3 bel lt3) (trodAll_cons_mk (Below.trod laidOut (by kernel_rfl) (of_decide_eq_true (by kernel_rfl)) k4 bel lt4) (trodAll_cons_mk (Below.trod laidOut (by kernel_rfl) (of_decide_eq_true (by kernel_rfl)) k5 bel lt5) trodAll_mk0)))))), rfl, bel.frame _, fun h => by cases h⟩
theorem said : Rows.AddrReadsUptoSaid :=
  OpenClaim.holds_of_cond 3 Tryz.f3 rfl rfl rfl rfl rfl rfl rfl ⟨rfl, rfl, rfl, rfl, rfl⟩ rfl rfl rfl rfl rfl (by kernel_rfl) Tryz.func3 (by kernel_rfl)
    (of_decide_eq_true (by kernel_rfl)) (by unfold Func.isWrapper; first | (rw [if_pos (by decide +kernel)]; kernel_rfl) | (rw [if_neg (by decide +kernel)]; exact ⟨rfl, rfl⟩))
    (fun os started H enc _ F => by rw [OpenClaim.pre_eq_preRow]; exact lifted os started H enc F)
theorem plain (f : FuncId) (fn : Func) (hf : Tryz.pinned.checked.prog.funcNamed "gangplank/gangplanklaw1.AddrReads" = some f) (hfn : Tryz.pinned.checked.prog.funcs[f]? = some fn) :
    true = Tryz.pinned.checked.prog.looks [] ∧ ∀ (j : Nat) t, fn.params[j]? = some t → Tryz.pinned.checked.prog.wantsStandIn t = false := by
  obtain rfl : f = 3 := Option.some.inj ((show Tryz.prog.funcNamed "gangplank/gangplanklaw1.AddrReads" = some 3 by kernel_rfl).symm.trans hf) |>.symm
  obtain rfl : fn = Tryz.f3 := (Option.some.inj (Tryz.func3.symm.trans hfn)).symm
  refine ⟨by kernel_rfl, fun j t ht => ?_⟩
  rw [Tryz.params3] at ht
  have hall : ((#[23, 9, 3, 9, 23, 3] : Array Nat).all fun t => !Tryz.prog.wantsStandIn t) = true := by kernel_rfl
  have := Array.all_eq_true'.1 hall t (Array.mem_of_getElem? ht)
  show Tryz.prog.wantsStandIn t = false
  simpa using this
/-- THE STATEMENT. -/
theorem proved : Rows.AddrReadsUptoCardSaid :=
  Claim7.holds_tied_plain_at .later [] _ _ _ _ said (fun _ h => by cases h) (by kernel_rfl) (fun _ h => by cases h) addrReadsUpto_row_tie rfl ⟨rfl, rfl⟩ (by kernel_rfl) rfl plain (by kernel_rfl)
#print axioms proved
end Go.Proofs.YtonjifkjammopaaGreatDoor.addrReads
