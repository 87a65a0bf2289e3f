/- The text of bytes; bytes.Clone, bytes.Equal. Conditions: as each lemma states them. -/
import Derived.Test.YtonjifkjammopaaGreatDoorOwn
import Derived.Laws.BytesArg
import Derived.Laws.OwnMore
import Derived.WalkSpells
namespace Go.Proofs.YtonjifkjammopaaGreatDoor
open Go.RowKit

theorem conv_str {w : World} {a : Option Addr} {n c : Nat} {xs : List Int} (h : Ints .u8 w a n xs) : (convert 27 9 (.slice a n c)).run Tryz.prog w = .ok (.string (strOfNums xs)) w := by
  rcases Nat.eq_zero_or_pos n with hn | hn
  · subst hn
    obtain rfl : xs = [] := List.length_eq_zero_iff.1 h.len
    cases a with
    | none => exact run_convert_bytes_nil w _ _ Tryz.underlying27 Tryz.underlying5 0 c _ Tryz.underlying9
    | some ad =>
      obtain ⟨b, off, spot⟩ := ad
      have := run_convert_bytes_string (P := Tryz.prog) w 27 9 5 (some ⟨b, off, spot⟩) 0 c Tryz.underlying27 Tryz.underlying5 Tryz.underlying9
      rw [this]
      rfl
  · obtain ⟨b, off, rfl, _, hc⟩ := h.at hn
    exact run_convert_bytes_arg w _ _ Tryz.underlying27 Tryz.underlying5 b off n c xs h.len hc _ Tryz.underlying9

theorem byte_inj {x y : Int} (hx : 0 ≤ x ∧ x ≤ 255) (hy : 0 ≤ y ∧ y ≤ 255) (h : UInt8.ofNat x.toNat = UInt8.ofNat y.toNat) : x = y := by
  have := congrArg UInt8.toNat h
  simp at this
  omega
theorem str_inj : ∀ {xs ys : List Int}, Pl.IsB xs → Pl.IsB ys → strOfNums xs = strOfNums ys → xs = ys := by
  intro xs ys hx hy h
  have h1 : (xs.map fun n => UInt8.ofNat n.toNat) = ys.map fun n => UInt8.ofNat n.toNat := by
    have := congrArg (fun s : ByteArray => s.data.toList) h
    simpa [strOfNums] using this
  clear h
  induction xs generalizing ys with
  | nil => cases ys with
    | nil => rfl
    | cons y r => simp at h1
  | cons x r ih => cases ys with
    | nil => simp at h1
    | cons y s =>
      simp only [List.map_cons, List.cons.injEq] at h1
      rw [byte_inj (hx x (List.mem_cons_self ..)) (hy y (List.mem_cons_self ..)) h1.1, ih (fun z hz => hx z (List.mem_cons_of_mem _ hz)) (fun z hz => hy z (List.mem_cons_of_mem _ hz)) h1.2]
theorem str_ne {xs ys : List Int} (hx : Pl.IsB xs) (hy : Pl.IsB ys) (h : xs ≠ ys) : ((strOfNums xs).toList == (strOfNums ys).toList) = false := by
  rw [beq_eq_false_iff_ne, ByteArray.toList_eq, ByteArray.toList_eq]
  intro e
  refine h (str_inj hx hy ?_)
  have h2 : (strOfNums xs).data = (strOfNums ys).data := Array.ext' e
  generalize strOfNums xs = s at h2 ⊢
  generalize strOfNums ys = t at h2 ⊢
  cases s; cases t; cases h2; rfl

end Go.Proofs.YtonjifkjammopaaGreatDoor
