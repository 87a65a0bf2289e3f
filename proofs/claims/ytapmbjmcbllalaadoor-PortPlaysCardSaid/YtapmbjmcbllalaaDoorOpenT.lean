/- What an argument is, once it is read: the steps of a script on ports, binds. Conditions: as each lemma states them. -/
import Derived.Test.YtapmbjmcbllalaaDoorOpenM
import Derived.Test.YtapmbjmcbllalaaDoorRow
namespace Go.Proofs.YtapmbjmcbllalaaDoor
open Go.ChangeShapes Go.WideShapes Go.ChangeAt Go.RowKit
/-- A step. -/
structure Stp where
  what : Int
  who : Six
  flow : Flow
  n : Int
  m : Int
  now : Int
def Stp.cells (s : Stp) : Array Value := #[.int .i64 s.what, .int .i64 s.who.x0, .int .i64 s.who.x1, .int .i64 s.who.x2, .int .i64 s.who.x3, .int .i64 s.who.x4, .int .i64 s.who.x5, .int .i64 s.who.x6, .int .i64 s.who.x7, .int .i64 s.flow.kind, .int .i64 s.flow.client.x0, .int .i64 s.flow.client.x1, .int .i64 s.flow.client.x2, .int .i64 s.flow.client.x3, .int .i64 s.flow.client.x4, .int .i64 s.flow.client.x5, .int .i64 s.flow.client.x6, .int .i64 s.flow.client.x7, .int .i64 s.flow.port, .int .i64 s.flow.dst.x0, .int .i64 s.flow.dst.x1, .int .i64 s.flow.dst.x2, .int .i64 s.flow.dst.x3, .int .i64 s.flow.dst.x4, .int .i64 s.flow.dst.x5, .int .i64 s.flow.dst.x6, .int .i64 s.flow.dst.x7, .int .i64 s.flow.door, .int .i64 s.n, .int .i64 s.m, .int .i64 s.now]
structure Stp.Is (s : Stp) : Prop where
  what : IsInt s.what
  who : s.who.Is
  flow : s.flow.Is
  n : IsInt s.n
  m : IsInt s.m
  now : IsInt s.now
theorem Stp.cells_one (s : Stp) : s.cells.all (·.oneCell') = true := by simp [Stp.cells, Value.oneCell']
def KT : Kin Stp := ⟨fun s => s.cells.toList, 31, by decide, fun _ => rfl, fun s u hu => (Array.all_eq_true_iff_forall_mem.1 s.cells_one) u (by simpa using hu)⟩
/-- Steps that came in. -/
def IsSteps (w : World) (a : Option Addr) (n c : Nat) (l : List Stp) : Prop := KT.See w a n l ∧ n ≤ c ∧ c ≤ maxLen ∧ ∀ s ∈ l, s.Is
section
variable {H : Type} {enc : TypeId × Value → H} {W : World}
theorem Tryd.cellsStp : Tryd.prog.cellsOf 39 = 31 := by kernel_rfl
set_option maxRecDepth 100000 in
theorem open_steps {a : Option Addr} {n c : Nat} {d : DataW H} {p : List MemPlace}
    (h : DataW.Trod enc Tryd.prog W 0 (fun _ => true) true 22 (.slice a n c) d p) : ∃ l, IsSteps W a n c l := by
  obtain ⟨fuel, hf⟩ := h
  rcases Go.Deep.open_slice Tryd.underlying22 hf with ⟨hcs, _⟩ | ⟨x, l, c', m, n', D, P, hcs, _, hl, hm, hmm, _, hx⟩
  · simp [Value.cells] at hcs
    obtain ⟨rfl, rfl, rfl⟩ := hcs
    exact ⟨[], Kin.See.nil _ _, Nat.le_refl _, Nat.zero_le _, fun s h => by cases h⟩
  · simp [Value.cells] at hcs
    obtain ⟨rfl, rfl, rfl⟩ := hcs
    simp only [if_true] at hmm
    subst hmm
    obtain ⟨b, off, spot⟩ := x
    have key : ∀ i, i < m → ∃ y : Stp, y.Is ∧ ∀ j, j < 31 → W.cell? ((Addr.mk b off spot).add (i * 31 + j)) = y.cells[j]? := fun i hi => by
      obtain ⟨cs', hc', ht⟩ := hx i hi
      rw [Tryd.cellsStp] at hc'
      obtain ⟨xs, q, _, _, hl', hlen, hg⟩ := DataW.trod_struct Tryd.underlying39 ht
      obtain ⟨_, hcl, hat⟩ := World.cells?_some hc'
      match cs', hl'.trans Tryd.cellsStp with
      | [c0, c1, c2, c3, c4, c5, c6, c7, c8, c9, c10, c11, c12, c13, c14, c15, c16, c17, c18, c19, c20, c21, c22, c23, c24, c25, c26, c27, c28, c29, c30], _ =>
        obtain ⟨x0, rfl, i0⟩ := open_cell_int (isSome_at (j := 0) hlen (by simp)) (by simpa [Tryd.cellsInt] using hg 0 _ rfl)
        obtain ⟨s1, h1, i1⟩ := open_cells_six (isSome_at (j := 1) hlen (by simp)) (by simpa [Tryd.cellsSix] using hg 1 _ rfl)
        obtain ⟨f2, h2, i2⟩ := open_cells_flow (isSome_at (j := 2) hlen (by simp)) (by simpa [Tryd.cellsFlow] using hg 2 _ rfl)
        obtain ⟨x3, rfl, i3⟩ := open_cell_int (isSome_at (j := 3) hlen (by simp)) (by simpa [Tryd.cellsInt] using hg 3 _ rfl)
        obtain ⟨x4, rfl, i4⟩ := open_cell_int (isSome_at (j := 4) hlen (by simp)) (by simpa [Tryd.cellsInt] using hg 4 _ rfl)
        obtain ⟨x5, rfl, i5⟩ := open_cell_int (isSome_at (j := 5) hlen (by simp)) (by simpa [Tryd.cellsInt] using hg 5 _ rfl)
        refine ⟨⟨x0, s1, f2, x3, x4, x5⟩, ⟨i0, i1, i2, i3, i4, i5⟩, fun j hj => ?_⟩
        have e1 : [c1, c2, c3, c4, c5, c6, c7, c8] = s1.cells.toList := h1
        have e2 : [c9, c10, c11, c12, c13, c14, c15, c16, c17, c18, c19, c20, c21, c22, c23, c24, c25, c26, c27] = f2.cells.toList := h2
        simp only [Six.cells, Flow.cells, List.cons.injEq, and_true] at e1 e2
        obtain ⟨rfl, rfl, rfl, rfl, rfl, rfl, rfl, rfl⟩ := e1
        obtain ⟨rfl, rfl, rfl, rfl, rfl, rfl, rfl, rfl, rfl, rfl, rfl, rfl, rfl, rfl, rfl, rfl, rfl, rfl, rfl⟩ := e2
        rw [← Go.Deep.add_add, hat j hj]
        simp [Stp.cells]
    have key' : ∀ i, i < m → ∃ y : Stp, y.Is ∧ ∀ j, j < 31 → W.cell? ((Addr.mk b off spot).add (i * 31 + j)) = y.cells[j]? := key
    obtain ⟨F, hF⟩ : ∃ F : Nat → Stp, ∀ i, i < m → (F i).Is ∧ ∀ j, j < 31 → W.cell? ((Addr.mk b off spot).add (i * 31 + j)) = (F i).cells[j]? :=
      ⟨fun i => if h : i < m then (key' i h).choose else ⟨0, ⟨0, 0, 0, 0, 0, 0, 0, 0⟩, ⟨0, ⟨0, 0, 0, 0, 0, 0, 0, 0⟩, 0, ⟨0, 0, 0, 0, 0, 0, 0, 0⟩, 0⟩, 0, 0, 0⟩, fun i hi => by
        simp only [dif_pos hi]
        exact (key' i hi).choose_spec⟩
    refine ⟨(List.range n).map F, ⟨by simp, ?_⟩, hl, hm, fun s hs => ?_⟩
    · rcases Nat.eq_zero_or_pos n with h0 | h0
      · exact .inl h0
      · refine .inr ?_
        have hspot : spot = none := by
          have := (hF 0 (by omega)).2 0 (by omega)
          simpa [Addr.add] using World.cell?_spot this
        subst hspot
        refine ⟨b, off, rfl, fun i x hi r u hu => ?_⟩
        obtain ⟨hi', hx⟩ := List.getElem?_eq_some_iff.1 hi
        have hi'' : i < n := by simpa using hi'
        have hr : r < 31 := by
          have h1 := (List.getElem?_eq_some_iff.1 hu).1
          have h2 : (KT.f x).length = 31 := KT.len x
          omega
        have e : x = F i := by rw [← hx]; simp
        subst e
        have := (hF i (by omega)).2 r hr
        have hu' : (F i).cells.toList[r]? = some u := hu
        rw [Array.getElem?_toList] at hu'
        rw [hu'] at this
        rw [← this, Addr.add_mid, Nat.add_assoc]
        rfl
    · obtain ⟨i, hi, rfl⟩ := List.mem_map.1 hs
      exact (hF i (by have : i < n := by simpa using hi
                      omega)).1
end
end Go.Proofs.YtapmbjmcbllalaaDoor
