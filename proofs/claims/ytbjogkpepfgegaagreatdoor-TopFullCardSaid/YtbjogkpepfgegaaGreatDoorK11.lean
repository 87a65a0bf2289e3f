/- The state of ports given away by blocks, plain; and how it lies in memory. Conditions: as each lemma states them. -/
import Derived.Test.YtbjogkpepfgegaaGreatDoorK03
import Derived.Test.YtbjogkpepfgegaaGreatDoorK02
import Derived.Laws.MakeOwn
import Derived.BigQuiet
namespace Go.Proofs.YtbjogkpepfgegaaGreatDoor
open Go.RowKit
namespace Pl
/-- How many of m from a on are taken. -/
def cnt (t : Nat → Bool) (a : Nat) : Nat → Nat
  | 0 => 0
  | m + 1 => cnt t a m + (if t (a + m) = true then 1 else 0)
/-- A function with one place written anew. -/
def upd {α : Type} (f : Nat → α) (i : Nat) (x : α) : Nat → α := fun j => if j = i then x else f j
theorem upd_same {α : Type} (f : Nat → α) (i : Nat) (x : α) : upd f i x i = x := if_pos rfl
theorem upd_other {α : Type} (f : Nat → α) {i j : Nat} (x : α) (h : j ≠ i) : upd f i x j = f j := if_neg h
theorem upd_id {α : Type} (f : Nat → α) (i : Nat) : upd f i (f i) = f := by
  funext j
  unfold upd
  split
  · rename_i h; rw [h]
  · rfl
theorem cnt_le (t : Nat → Bool) (a : Nat) : ∀ m, cnt t a m ≤ m
  | 0 => Nat.le_refl _
  | m + 1 => by have := cnt_le t a m; unfold cnt; split <;> omega
theorem cnt_congr {t u : Nat → Bool} (a : Nat) : ∀ m, (∀ j, j < m → t (a + j) = u (a + j)) → cnt t a m = cnt u a m
  | 0, _ => rfl
  | m + 1, h => by unfold cnt; rw [cnt_congr a m (fun j hj => h j (by omega)), h m (by omega)]
theorem cnt_out (t : Nat → Bool) {a m i : Nat} (b : Bool) (h : i < a ∨ a + m ≤ i) : cnt (upd t i b) a m = cnt t a m :=
  cnt_congr a m fun j hj => upd_other t b (by omega)
theorem cnt_put (t : Nat → Bool) (a : Nat) (i : Nat) (b : Bool) : ∀ m, a ≤ i → i < a + m → cnt (upd t i b) a m + (if t i = true then 1 else 0) = cnt t a m + (if b = true then 1 else 0)
  | 0, h0, h1 => by omega
  | m + 1, h0, h1 => by
    by_cases h : i = a + m
    · subst h
      unfold cnt
      rw [cnt_out t b (by omega), upd_same]
      omega
    · have ih := cnt_put t a i b m h0 (by omega)
      unfold cnt
      rw [upd_other t b (show a + m ≠ i by omega)]
      omega
theorem cnt_zero {t : Nat → Bool} {a : Nat} : ∀ {m}, cnt t a m = 0 → ∀ j, j < m → t (a + j) = false
  | 0, _, j, hj => by omega
  | m + 1, h, j, hj => by
    unfold cnt at h
    by_cases hjm : j = m
    · subst hjm
      cases ht : t (a + j)
      · rfl
      · rw [ht, if_pos rfl] at h; omega
    · exact cnt_zero (m := m) (by omega) j (by omega)
theorem cnt_none {t : Nat → Bool} {a : Nat} : ∀ {m}, (∀ j, j < m → t (a + j) = false) → cnt t a m = 0
  | 0, _ => rfl
  | m + 1, h => by
    unfold cnt
    rw [cnt_none (m := m) (fun j hj => h j (by omega)), h m (by omega)]
    rfl
theorem cnt_pos {t : Nat → Bool} {a m j : Nat} (hj : j < m) (h : t (a + j) = true) : 0 < cnt t a m := by
  refine Nat.pos_of_ne_zero fun h0 => ?_
  have := cnt_zero h0 j hj
  rw [h] at this
  cases this
theorem cnt_full {t : Nat → Bool} {a : Nat} : ∀ {m}, cnt t a m = m → ∀ j, j < m → t (a + j) = true
  | 0, _, j, hj => by omega
  | m + 1, h, j, hj => by
    have hl := cnt_le t a m
    unfold cnt at h
    by_cases hjm : j = m
    · subst hjm
      cases ht : t (a + j)
      · rw [ht, if_neg (by decide)] at h; omega
      · rfl
    · refine cnt_full (m := m) ?_ j (by omega)
      split at h <;> omega
theorem cnt_all {t : Nat → Bool} {a : Nat} : ∀ {m}, (∀ j, j < m → t (a + j) = true) → cnt t a m = m
  | 0, _ => rfl
  | m + 1, h => by
    unfold cnt
    rw [cnt_all (m := m) (fun j hj => h j (by omega)), h m (by omega)]
    rfl
theorem cnt_add (t : Nat → Bool) (a m : Nat) : ∀ k, cnt t a (m + k) = cnt t a m + cnt t (a + m) k
  | 0 => rfl
  | k + 1 => by
    show cnt t a (m + k) + (if t (a + (m + k)) = true then 1 else 0) = cnt t a m + (cnt t (a + m) k + (if t (a + m + k) = true then 1 else 0))
    rw [cnt_add t a m k, Nat.add_assoc, Nat.add_assoc a m k]
/-- The first place below m; m if there is none. -/
def first (p : Nat → Bool) : Nat → Nat
  | 0 => 0
  | m + 1 => if first p m < m then first p m else if p m = true then m else m + 1
theorem first_le (p : Nat → Bool) : ∀ m, first p m ≤ m
  | 0 => Nat.le_refl _
  | m + 1 => by
    have := first_le p m
    unfold first
    split
    · omega
    · split <;> omega
theorem first_before {p : Nat → Bool} : ∀ {m j}, j < first p m → p j = false
  | 0, j, h => by unfold first at h; omega
  | m + 1, j, h => by
    unfold first at h
    split at h
    · exact first_before h
    · rename_i h0
      have := first_le p m
      have e : first p m = m := by omega
      split at h
      · exact first_before (m := m) (by omega)
      · rename_i h1
        by_cases hj : j = m
        · rw [hj]; simpa using h1
        · exact first_before (m := m) (by omega)
theorem first_at {p : Nat → Bool} : ∀ {m}, first p m < m → p (first p m) = true
  | 0, h => by omega
  | m + 1, h => by
    unfold first at h ⊢
    split
    · rename_i h0; exact first_at h0
    · split
      · rename_i h1; exact h1
      · rename_i h0 h1; rw [if_neg h0, if_neg h1] at h; omega
theorem first_eq {p : Nat → Bool} {m i : Nat} (hi : i < m) (h : p i = true) (hb : ∀ j, j < i → p j = false) : first p m = i := by
  have h1 : ¬ i < first p m := fun hlt => by rw [first_before (p := p) (m := m) hlt] at h; cases h
  have h2 : ¬ first p m < i := fun hlt => by
    have := hb _ hlt
    rw [first_at (p := p) (m := m) (by omega)] at this
    cases this
  omega
theorem first_none {p : Nat → Bool} {m : Nat} (h : ∀ j, j < m → p j = false) : first p m = m := by
  have h1 := first_le p m
  by_cases hlt : first p m < m
  · have := h _ hlt; rw [first_at (p := p) (m := m) hlt] at this; cases this
  · omega
end Pl
/-- Ports: blocks, whose each is, which ports are taken. -/
structure PS where
  n : Nat
  own : Nat → Six
  tk : Nat → Bool
namespace PS
def many (s : PS) (k : Nat) : Nat := Pl.cnt s.tk (8 * k) 8
def cell (s : PS) (i : Nat) : Value :=
  if i % 17 < 8 then .int .i64 ((s.own (i / 17)).l.getD (i % 17) 0) else if i % 17 < 16 then .bool (s.tk (8 * (i / 17) + (i % 17 - 8))) else .int .i64 (s.many (i / 17) : Nat)
def cells (s : PS) : Array Value := Array.ofFn (n := 17 * s.n) fun i => s.cell i
/-- One port is taken, or given back. -/
def set (s : PS) (i : Nat) (b : Bool) : PS := { s with tk := Pl.upd s.tk i b }
/-- A block is somebody's. -/
def give (s : PS) (k : Nat) (who : Six) : PS := { s with own := Pl.upd s.own k who }
theorem size_cells (s : PS) : s.cells.size = 17 * s.n := by simp [cells]
theorem cells_at (s : PS) {i : Nat} (h : i < 17 * s.n) : s.cells[i]? = some (s.cell i) := by
  unfold cells
  rw [Array.getElem?_ofFn]
  rw [dif_pos h]
theorem cells_out (s : PS) {i : Nat} (h : ¬ i < 17 * s.n) : s.cells[i]? = none := by
  unfold cells
  rw [Array.getElem?_ofFn]
  rw [dif_neg h]
theorem cell_own (s : PS) (k : Nat) {j : Nat} (h : j < 8) : s.cell (17 * k + j) = .int .i64 ((s.own k).l.getD j 0) := by
  have e1 : (17 * k + j) % 17 = j := by omega
  have e2 : (17 * k + j) / 17 = k := by omega
  unfold cell
  rw [e1, e2, if_pos h]
theorem cell_tk (s : PS) (k : Nat) {j : Nat} (h : j < 8) : s.cell (17 * k + (8 + j)) = .bool (s.tk (8 * k + j)) := by
  have e1 : (17 * k + (8 + j)) % 17 = 8 + j := by omega
  have e2 : (17 * k + (8 + j)) / 17 = k := by omega
  unfold cell
  rw [e1, e2, if_neg (by omega), if_pos (by omega), show 8 + j - 8 = j by omega]
theorem cell_many (s : PS) (k : Nat) : s.cell (17 * k + 16) = .int .i64 (s.many k : Nat) := by
  have e1 : (17 * k + 16) % 17 = 16 := by omega
  have e2 : (17 * k + 16) / 17 = k := by omega
  unfold cell
  rw [e1, e2, if_neg (by omega), if_neg (by omega)]
theorem many_set (s : PS) {k j : Nat} (b : Bool) (h : j < 8) : (s.set (8 * k + j) b).many k + (if s.tk (8 * k + j) = true then 1 else 0) = s.many k + (if b = true then 1 else 0) :=
  Pl.cnt_put s.tk (8 * k) (8 * k + j) b 8 (by omega) (by omega)
theorem many_set_other (s : PS) {k q j : Nat} (b : Bool) (h : j < 8) (hq : q ≠ k) : (s.set (8 * k + j) b).many q = s.many q :=
  Pl.cnt_out s.tk b (by omega)
theorem split17 (i : Nat) : (∃ k j, j < 8 ∧ i = 17 * k + j) ∨ (∃ k j, j < 8 ∧ i = 17 * k + (8 + j)) ∨ ∃ k, i = 17 * k + 16 := by
  by_cases h0 : i % 17 < 8
  · exact .inl ⟨i / 17, i % 17, h0, by omega⟩
  · by_cases h1 : i % 17 < 16
    · exact .inr (.inl ⟨i / 17, i % 17 - 8, by omega, by omega⟩)
    · exact .inr (.inr ⟨i / 17, by omega⟩)
/-- The two stores of a port that is taken or given back. -/
theorem cells_set (s : PS) {k j : Nat} (b : Bool) (hk : k < s.n) (hj : j < 8) :
    (s.cells.setIfInBounds (17 * k + (8 + j)) (.bool b)).setIfInBounds (17 * k + 16) (.int .i64 ((s.set (8 * k + j) b).many k : Nat)) = (s.set (8 * k + j) b).cells := by
  refine Array.ext_getElem? fun i => ?_
  rw [Array.getElem?_setIfInBounds, Array.getElem?_setIfInBounds]
  simp only [Array.size_setIfInBounds, size_cells]
  have hn : (s.set (8 * k + j) b).n = s.n := rfl
  by_cases hi : i < 17 * s.n
  case neg =>
    rw [cells_out _ (show ¬ i < 17 * (s.set (8 * k + j) b).n from hi), if_neg (by omega), if_neg (by omega), cells_out s hi]
  rw [cells_at _ (show i < 17 * (s.set (8 * k + j) b).n from hi)]
  rcases split17 i with ⟨q, r, hr, rfl⟩ | ⟨q, r, hr, rfl⟩ | ⟨q, rfl⟩
  · rw [if_neg (by omega), if_neg (by omega), cells_at s hi, cell_own s q hr, cell_own _ q hr]
    rfl
  · rw [if_neg (by omega), cell_tk _ q hr]
    by_cases hq : q = k ∧ r = j
    · obtain ⟨rfl, rfl⟩ := hq
      rw [if_pos rfl, if_pos hi]
      show _ = some (Value.bool (Pl.upd s.tk (8 * q + r) b (8 * q + r)))
      rw [Pl.upd_same]
    · rw [if_neg (by omega), cells_at s hi, cell_tk s q hr]
      show _ = some (Value.bool (Pl.upd s.tk (8 * k + j) b (8 * q + r)))
      rw [Pl.upd_other _ _ (by omega)]
  · rw [cell_many]
    by_cases hq : q = k
    · subst hq
      rw [if_pos rfl, if_pos hi]
    · rw [if_neg (by omega), if_neg (by omega), cells_at s hi, cell_many, many_set_other s b hj hq]
/-- Cells written one behind the other. -/
def puts (cs : Array Value) : Nat → List Value → Array Value
  | _, [] => cs
  | o, v :: r => puts (cs.setIfInBounds o v) (o + 1) r
theorem puts_get : ∀ (vs : List Value) (cs : Array Value) (o i : Nat), (puts cs o vs)[i]? = if o ≤ i ∧ i < o + vs.length ∧ i < cs.size then vs[i - o]? else cs[i]?
  | [], cs, o, i => by rw [if_neg (by simp; omega)]; rfl
  | v :: r, cs, o, i => by
    show (puts (cs.setIfInBounds o v) (o + 1) r)[i]? = _
    rw [puts_get r, Array.getElem?_setIfInBounds]
    simp only [Array.size_setIfInBounds, List.length_cons]
    by_cases h1 : o + 1 ≤ i ∧ i < o + 1 + r.length ∧ i < cs.size
    · rw [if_pos h1, if_pos (by omega), show i - o = (i - (o + 1)) + 1 by omega]
      rfl
    · rw [if_neg h1]
      by_cases h2 : o = i
      · subst h2
        rw [if_pos rfl]
        by_cases h3 : o < cs.size
        · rw [if_pos h3, if_pos (by omega), Nat.sub_self]; rfl
        · rw [if_neg h3, if_neg (by omega), Array.getElem?_eq_none (by omega)]
      · rw [if_neg h2, if_neg (by omega)]
theorem cells_give (s : PS) {k : Nat} (who : Six) (hk : k < s.n) : puts s.cells (17 * k) who.cells.toList = (s.give k who).cells := by
  refine Array.ext_getElem? fun i => ?_
  rw [puts_get, show who.cells.toList.length = 8 from rfl, size_cells]
  by_cases hi : i < 17 * s.n
  case neg =>
    rw [cells_out _ (show ¬ i < 17 * (s.give k who).n from hi), if_neg (by omega), cells_out s hi]
  rw [cells_at _ (show i < 17 * (s.give k who).n from hi)]
  rcases split17 i with ⟨q, r, hr, rfl⟩ | ⟨q, r, hr, rfl⟩ | ⟨q, rfl⟩
  · rw [cell_own _ q hr]
    by_cases hq : q = k
    · subst hq
      rw [if_pos (by omega), show 17 * q + r - 17 * q = r by omega]
      show _ = some (Value.int .i64 ((Pl.upd s.own q who q).l.getD r 0))
      rw [Pl.upd_same, Array.getElem?_toList]
      exact who.cells_at r hr
    · rw [if_neg (by omega), cells_at s hi, cell_own s q hr]
      show _ = some (Value.int .i64 ((Pl.upd s.own k who q).l.getD r 0))
      rw [Pl.upd_other _ _ hq]
  · rw [if_neg (by omega), cells_at s hi, cell_tk _ q hr, cell_tk _ q hr]
    rfl
  · rw [if_neg (by omega), cells_at s hi, cell_many, cell_many]
    rfl
end PS
/-- A load in a quiet walk of a region, its run known. -/
theorem quiet_ld {P : Program} {C : World → Prop} {a : Act} {o : Oper} {K : Act → Prop} (ty : TypeId) (x : Operand) (ho : o.op = .load ty x) {p v : Value} (hx : a.eval x = p) (h : ∀ w, C w → (Instr.loadAt ty p).run P w = .ok v w) (hk : K (a.put o.dst v)) : o.quiet P a C K := by
  refine ⟨v, fun w hw => ?_, hk⟩
  unfold Oper.quietAt execOp
  simp only [ho, hx, Sem.run_bind, h w hw, Result.andThen_ok, Sem.run_pure]
  exact ⟨rfl, rfl⟩
theorem wp_store_at {P : Program} {o : Oper} {a : Act} {w : World} {K : Act → World → Prop} {Q : Exit → Act → World → Prop} (ty : TypeId) (x y : Operand) (ho : o.op = .store ty x y) (p : Addr) (hx : a.eval x = .pointer (some p)) {v : Value} {w' : World}
    (h : (Instr.storeAt ty (.pointer (some p)) v).run P w = .ok () w') (hy : a.eval y = v) (k : K (a.put o.dst undef) w') : Oper.wp P o a w K Q := by
  unfold Oper.wp execOp
  simp only [ho, hx, hy, Sem.run_bind, h, Result.andThen_ok, Sem.run_pure]
  exact k

theorem six_eq (s t : Six) (w : World) : (Op.equalIn 10000 23 (.agg s.cells) (.agg t.cells)).run Tryz.prog w = .ok (sixEq s t) w := run_sixEq s t 9998 w
theorem Blk.puts {g : Nat} {t : TypeId} : ∀ (vs : List Value) {w : World} {cs : Array Value} (o : Nat), Blk w g t cs → Blk (w.setCells g o vs) g t (PS.puts cs o vs)
  | [], _, _, _, h => h
  | v :: r, _, _, o, h => Blk.puts r (o + 1) (h.put o v)
theorem only_cells {a : World} {g : Nat} : ∀ (vs : List Value) {w : World} (o : Nat), a.grownBy w (some g) → a.grownBy (w.setCells g o vs) (some g)
  | [], _, _, h => h
  | v :: r, _, o, h => only_cells r (o + 1) (only_set h o v)
end Go.Proofs.YtbjogkpepfgegaaGreatDoor
