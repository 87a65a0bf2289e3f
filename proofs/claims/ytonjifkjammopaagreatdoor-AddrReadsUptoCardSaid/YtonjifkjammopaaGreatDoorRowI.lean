/- Rows of numbers that the call itself has made. Conditions: as each lemma states them. -/
import Derived.Test.YtonjifkjammopaaGreatDoorRow
namespace Go.Proofs.YtonjifkjammopaaGreatDoor
open Go.RowKit
/-- Numbers in cells. -/
def KI : Kin Int := ⟨fun x => [.int .i64 x], 1, by decide, fun _ => rfl, fun _ u hu => by rw [List.mem_singleton.1 hu]; rfl⟩
theorem Ints.see {w : World} {a : Option Addr} {n : Nat} {xs : List Int} (h : Ints .i64 w a n xs) : KI.See w a n xs := by
  refine ⟨h.len, ?_⟩
  rcases h.2 with h0 | ⟨b, off, rfl, hc⟩
  · exact .inl h0
  · refine .inr ⟨b, off, rfl, fun i x hx r u hu => ?_⟩
    obtain ⟨hi, rfl⟩ := List.getElem?_eq_some_iff.1 hx
    have hr : r = 0 := by have := (List.getElem?_eq_some_iff.1 hu).1; simp [KI] at this; exact this
    subst hr
    have := hc i (by rw [← h.len]; exact hi)
    simp [KI] at hu
    rw [← hu]
    simpa [KI, List.getD, hi] using this
theorem Kin.See.ints {w : World} {a : Option Addr} {n : Nat} {xs : List Int} (h : KI.See w a n xs) : Ints .i64 w a n xs := by
  refine ⟨h.1, ?_⟩
  rcases h.2 with h0 | ⟨b, off, rfl, hc⟩
  · exact .inl h0
  · refine .inr ⟨b, off, rfl, fun i hi => ?_⟩
    have hl : i < xs.length := by rw [h.1]; exact hi
    have := hc i xs[i] (List.getElem?_eq_getElem hl) 0 (.int .i64 xs[i]) rfl
    simpa [KI, List.getD, hl] using this
theorem Tryz.infoInt : (Tryz.prog.info? 3).map (fun i => (i.zero, i.size, i.bytes)) = some (some (.int .i64 0), 1, 8) := by kernel_rfl
theorem appI {w : World} {ops : Array Oper} {rest : List Oper} {o : Oper} {a : Act} {Q : Exit → Act → World → Prop} (hgd : o.guard = none) (s x : Operand)
    (ho : o.op = .call { callee := .builtin .append, args := #[s, x], argTypes := #[56, 56] })
    (B : Nat) (v : Value) (ys : List Int) (hs : a.eval s = v) (hown : KI.Own 3 w B v ys) (ao : Option Addr) (m c : Nat) (xs : List Int) (hx : a.eval x = .slice ao m c) (hr : Ints .i64 w ao m xs)
    (hmax : ys.length + m ≤ 1073741824) (hbase : B ≤ w.heap.size)
    (h : ∀ v' w', KI.Own 3 w' B v' (ys ++ xs) → w.grownBy w' v.ownBlock → Below B w w' → wpList Tryz.prog ops Q rest (a.put o.dst v') w') : wpList Tryz.prog ops Q (o :: rest) a w :=
  appK KI 56 3 (.int .i64 0) 8 Tryz.underlying56 Tryz.infoInt rfl (by decide) hgd s x ho B v ys hs hown ao m c xs hx hr.see hmax hbase h
theorem Blk.ints1 {w : World} {g : Nat} {t : TypeId} {x : Int} (h : Blk w g t #[.int .i64 x]) : Ints .i64 w (some ⟨g, 0, none⟩) 1 [x] := h.ints rfl fun i hi => by
  obtain rfl : i = 0 := by omega
  rfl
theorem Blk.ints2 {w : World} {g : Nat} {t : TypeId} {x y : Int} (h : Blk w g t #[.int .i64 x, .int .i64 y]) : Ints .i64 w (some ⟨g, 0, none⟩) 2 [x, y] := h.ints rfl fun i hi => by
  have : i = 0 ∨ i = 1 := by omega
  rcases this with rfl | rfl <;> rfl
end Go.Proofs.YtonjifkjammopaaGreatDoor
