/- The text of bytes; bytes.Clone, bytes.Equal. Conditions: as each lemma states them. -/
import Derived.Test.YtoaahiclmodcgaaOwn
import Derived.Laws.BytesArg
import Derived.Laws.OwnMore
import Derived.WalkSpells
namespace Go.Proofs.Ytoaahiclmodcgaa
open Go.RowKit

theorem conv_str {w : World} {a : Option Addr} {n c : Nat} {xs : List Int} (h : Ints .u8 w a n xs) : (convert 41 9 (.slice a n c)).run Try.prog w = .ok (.string (strOfNums xs)) w := by
  rcases Nat.eq_zero_or_pos n with hn | hn
  · subst hn
    obtain rfl : xs = [] := List.length_eq_zero_iff.1 h.len
    cases a with
    | none => exact run_convert_bytes_nil w _ _ Try.underlying41 Try.underlying5 0 c _ Try.underlying9
    | some ad =>
      obtain ⟨b, off, spot⟩ := ad
      have := run_convert_bytes_string (P := Try.prog) w 41 9 5 (some ⟨b, off, spot⟩) 0 c Try.underlying41 Try.underlying5 Try.underlying9
      rw [this]
      rfl
  · obtain ⟨b, off, rfl, _, hc⟩ := h.at hn
    exact run_convert_bytes_arg w _ _ Try.underlying41 Try.underlying5 b off n c xs h.len hc _ Try.underlying9

theorem byte_inj {x y : Int} (hx : 0 ≤ x ∧ x ≤ 255) (hy : 0 ≤ y ∧ y ≤ 255) (h : UInt8.ofNat x.toNat = UInt8.ofNat y.toNat) : x = y := by
  have := congrArg UInt8.toNat h
  simp at this
  omega
theorem str_inj : ∀ {xs ys : List Int}, Pl.IsB xs → Pl.IsB ys → strOfNums xs = strOfNums ys → xs = ys := by
  intro xs ys hx hy h
  have h1 : (xs.map fun n => UInt8.ofNat n.toNat) = ys.map fun n => UInt8.ofNat n.toNat := by
    have := congrArg (fun s : ByteArray => s.data.toList) h
    simpa [strOfNums] using this
  clear h
  induction xs generalizing ys with
  | nil => cases ys with
    | nil => rfl
    | cons y r => simp at h1
  | cons x r ih => cases ys with
    | nil => simp at h1
    | cons y s =>
      simp only [List.map_cons, List.cons.injEq] at h1
      rw [byte_inj (hx x (List.mem_cons_self ..)) (hy y (List.mem_cons_self ..)) h1.1, ih (fun z hz => hx z (List.mem_cons_of_mem _ hz)) (fun z hz => hy z (List.mem_cons_of_mem _ hz)) h1.2]
theorem str_ne {xs ys : List Int} (hx : Pl.IsB xs) (hy : Pl.IsB ys) (h : xs ≠ ys) : ((strOfNums xs).toList == (strOfNums ys).toList) = false := by
  rw [beq_eq_false_iff_ne, ByteArray.toList_eq, ByteArray.toList_eq]
  intro e
  refine h (str_inj hx hy ?_)
  have h2 : (strOfNums xs).data = (strOfNums ys).data := Array.ext' e
  generalize strOfNums xs = s at h2 ⊢
  generalize strOfNums ys = t at h2 ⊢
  cases s; cases t; cases h2; rfl

/-- bytes.Equal. -/
theorem equal_yes (a b : Option Addr) (n c m d : Nat) (xs : List Int) (w : World) (h1 : Ints .u8 w a n xs) (h2 : Ints .u8 w b m xs) :
    Calls Try.prog 55 #[.slice a n c, .slice b m d] w fun e w' => e = .returned (.bool true) ∧ w = w' := by
  have k1 := conv_str (c := c) h1
  have k2 := conv_str (c := d) h2
  generalize strOfNums xs = s at k1 k2
  clear h1 h2
  go_enter Try.func55, Try.ntmps55
  go_wp2
  go_ret
  exact ⟨rfl, rfl⟩
theorem equal_no (a b : Option Addr) (n c m d : Nat) (xs ys : List Int) (w : World) (h1 : Ints .u8 w a n xs) (h2 : Ints .u8 w b m ys) (hx : Pl.IsB xs) (hy : Pl.IsB ys) (hne : xs ≠ ys) :
    Calls Try.prog 55 #[.slice a n c, .slice b m d] w fun e w' => e = .returned (.bool false) ∧ w = w' := by
  have k1 := conv_str (c := c) h1
  have k2 := conv_str (c := d) h2
  have hs := str_ne hx hy hne
  generalize strOfNums xs = s at k1 hs
  generalize strOfNums ys = t at k2 hs
  clear h1 h2 hne
  go_enter Try.func55, Try.ntmps55
  go_wp2
  go_ret
  exact ⟨rfl, rfl⟩

/-- bytes.Clone. -/
theorem clone_any (a : Option Addr) (n c : Nat) (xs : List Int) (w : World) (h : Ints .u8 w a n xs) (hc : a = none → c = 0) (hn : n ≤ 1099511627776) :
    Calls Try.prog 28 #[.slice a n c] w fun e w' => ∃ v, e = .returned v ∧ Own w' w.heap.size v xs ∧ Below w.heap.size w w' := by
  cases a with
  | none =>
    obtain rfl : n = 0 := by
      rcases h.2 with h0 | ⟨b, off, h0, _⟩
      · exact h0
      · cases h0
    obtain rfl := hc rfl
    obtain rfl : xs = [] := List.length_eq_zero_iff.1 h.len
    clear h hc
    have q : ∀ (w : World) (a : Option Addr) (n c n' c' : Nat), (binOp .eql 41 (.slice a n c) (.slice none n' c')).run Try.prog w = .ok (.bool a.isNone) w := fun w a n c n' c' => Lib.run_eql_slice_nil w _ _ a n c n' c' Try.underlying41
    go_enter Try.func28, Try.ntmps28
    go_wp2
    go_ret
    exact ⟨_, rfl, Own.nil _ _, Below.refl _ _⟩
  | some ad =>
    clear hc
    have H := Lib.hid h
    clear h
    have q : ∀ (w : World) (a : Option Addr) (n c n' c' : Nat), (binOp .eql 41 (.slice a n c) (.slice none n' c')).run Try.prog w = .ok (.bool a.isNone) w := fun w a n c n' c' => Lib.run_eql_slice_nil w _ _ a n c n' c' Try.underlying41
    go_enter Try.func28, Try.ntmps28
    go_wp2_with (at_builtin; refine Halt.out ?_)
    refine Halt.mk ?_
    have hb : Below w.heap.size w (w.alloc (.cells #[] 5)) := by go_grown
    refine app rfl _ _ rfl w.heap.size _ [] rfl (Own.built w _ #[] [] 0 rfl rfl (Nat.le_refl _) (by simp)) (some ad) n c xs rfl (H.out.below hb) (by simp; omega) (by simp) ?_
    intro v W ho hb2
    go_wp2
    go_ret
    exact ⟨v, rfl, by simpa using ho, hb.trans hb2⟩
end Go.Proofs.Ytoaahiclmodcgaa
