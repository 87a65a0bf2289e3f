/- Texts of addresses, plainly (no program in sight): words as hex digits, joined with colons; what is read from such a text. Conditions: as each lemma states them. -/
import Derived.Lib.Join
import Derived.Lib.SplitLaws
import Derived.Lib.IndexLaws
namespace Go.Proofs.YtonjifkjammopaaGreatDoor.Pl
/-- A hex digit. -/
def hexD (d : Nat) : UInt8 := if d < 10 then (48 + d).toUInt8 else (87 + d).toUInt8
/-- How many digits stand behind the first one. -/
def hexN (u : Nat) : Nat := if u < 16 then 0 else if u < 256 then 1 else if u < 4096 then 2 else 3
/-- The digits from the first one on. -/
def hexK (u k : Nat) : List UInt8 := (List.range (k + 1)).map fun j => hexD (u / 16 ^ (k - j) % 16)
def hexW (u : Nat) : List UInt8 := hexK u (hexN u)
theorem hexN_of {u k : Nat} (hu : u ≤ 65535) (hk : k ≤ 3) (h0 : u / 16 ^ k < 16) (h1 : k = 0 ∨ 16 ≤ u / 16 ^ (k - 1)) : k = hexN u := by
  unfold hexN
  have : k = 0 ∨ k = 1 ∨ k = 2 ∨ k = 3 := by omega
  rcases this with rfl | rfl | rfl | rfl <;> simp only [Nat.reducePow, Nat.reduceSub] at h0 h1 <;> (repeat' split) <;> omega
/-- What a byte is worth. -/
def digH (c : UInt8) : Nat := if 48 ≤ c.toNat ∧ c.toNat ≤ 57 then c.toNat - 48 else if 97 ≤ (c ||| 32).toNat ∧ (c ||| 32).toNat ≤ 122 then (c ||| 32).toNat - 97 + 10 else 99
theorem digH_hexD : ∀ d : Fin 16, digH (hexD d.val) = d.val := by decide
theorem hexD_58 : ∀ d : Fin 16, hexD d.val ≠ 58 := by decide
/-- What digits are, behind a number. -/
def hexP : Nat → List UInt8 → Option Nat
  | n, [] => some n
  | n, c :: l => if digH c < 16 ∧ n * 16 + digH c ≤ 65535 then hexP (n * 16 + digH c) l else none
theorem hexP_le : ∀ (l : List UInt8) (n v : Nat), n ≤ 65535 → hexP n l = some v → v ≤ 65535
  | [], n, v, hn, h => by cases h; exact hn
  | c :: l, n, v, hn, h => by
    unfold hexP at h
    by_cases hc : digH c < 16 ∧ n * 16 + digH c ≤ 65535
    · rw [if_pos hc] at h; exact hexP_le l _ v hc.2 h
    · rw [if_neg hc] at h; cases h
theorem dig_lt (v : Nat) : digH (hexD (v % 16)) = v % 16 := digH_hexD ⟨v % 16, Nat.mod_lt _ (by decide)⟩
theorem hexP_hexW (u : Nat) (hu : u ≤ 65535) : hexP 0 (hexW u) = some u := by
  unfold hexW hexN
  repeat' split
  all_goals
    simp only [hexK, List.range, List.range.loop, List.map, hexP, dig_lt, Nat.reducePow, Nat.reduceSub]
    simp (config := { decide := false }) only [Nat.zero_mul, Nat.zero_add, Nat.div_one]
    repeat' (rw [if_pos (by omega)])
    congr 1
    omega
theorem hexW_ne (u : Nat) : hexW u ≠ [] := by unfold hexW hexK; simp [List.range_succ]
theorem hexW_len (u : Nat) : 1 ≤ (hexW u).length ∧ (hexW u).length ≤ 4 := by
  unfold hexW hexK hexN
  simp only [List.length_map, List.length_range]
  repeat' split
  all_goals omega
theorem hexW_58 (u : Nat) : ∀ c ∈ hexW u, c ≠ 58 := by
  unfold hexW hexK
  intro c hc
  obtain ⟨j, _, rfl⟩ := List.mem_map.1 hc
  exact hexD_58 ⟨_, Nat.mod_lt _ (by decide)⟩
/-- A word of a text: what it says; 0 where it says none. -/
def numW (l : List UInt8) : Nat := if l = [] then 0 else (hexP 0 l).getD 0
theorem numW_le (l : List UInt8) : numW l ≤ 65535 := by
  unfold numW
  split
  · omega
  · cases h : hexP 0 l with
    | none => simp
    | some v => exact hexP_le l 0 v (by omega) h
theorem numW_hexW (u : Nat) (hu : u ≤ 65535) : numW (hexW u) = u := by
  unfold numW
  rw [if_neg (hexW_ne u), hexP_hexW u hu]
  rfl
/-- A word: not empty, no colon. -/
def OkW (w : List UInt8) : Prop := w ≠ [] ∧ ∀ c ∈ w, c ≠ 58
theorem okW_hexW (u : Nat) : OkW (hexW u) := ⟨hexW_ne u, hexW_58 u⟩
open Go.Lib
/-- A place behind so many bytes. -/
def far (k : Nat) (i : Int) : Int := if i = -1 then -1 else i + k
theorem far_far (a b : Nat) (i : Int) (h : -1 ≤ i) : far a (far b i) = far (b + a) i := by
  unfold far
  split
  · rw [if_pos rfl]
  · rw [if_neg (by omega)]; omega
theorem index_skip1 (c : UInt8) (t : List UInt8) (sub : List UInt8) (h : sub.isPrefixOf (c :: t) = false) : index (c :: t) sub = far 1 (index t sub) := by
  have hg := index_ge t sub
  rw [index, h]
  unfold far
  by_cases hi : index t sub = -1
  · rw [if_pos hi]; simp [hi]
  · rw [if_neg hi]; simp [hi]
theorem index_skipW (sub : List UInt8) (hs : sub.head? = some 58) : ∀ (w t : List UInt8), (∀ c ∈ w, c ≠ 58) → index (w ++ t) sub = far w.length (index t sub)
  | [], t, _ => by have := index_ge t sub; unfold far; split <;> simp_all
  | c :: w, t, h => by
    obtain ⟨s, rfl⟩ : ∃ s, sub = 58 :: s := by
      cases sub with
      | nil => cases hs
      | cons a s => cases hs; exact ⟨s, rfl⟩
    have hc : c ≠ 58 := h c (by simp)
    rw [List.cons_append, index_skip1 c _ _ (by simp [List.isPrefixOf, Ne.symm hc]), index_skipW _ rfl w t (fun x hx => h x (by simp [hx])), far_far _ _ _ (index_ge _ _)]
    rfl
theorem index_skipC (w t : List UInt8) (h : OkW w) : index (58 :: w ++ t) [58, 58] = far (w.length + 1) (index t [58, 58]) := by
  obtain ⟨hne, hw⟩ := h
  cases w with
  | nil => exact absurd rfl hne
  | cons c w =>
    have hc : c ≠ 58 := hw c (by simp)
    rw [List.cons_append, index_skip1 58 _ _ (by simp [List.isPrefixOf, Ne.symm hc]), index_skipW _ rfl (c :: w) t hw, far_far _ _ _ (index_ge _ _)]
theorem index_tail : ∀ (r : List (List UInt8)) (t : List UInt8), (∀ w ∈ r, OkW w) → index (joinTail [58] r ++ t) [58, 58] = far (joinTail [58] r).length (index t [58, 58])
  | [], t, _ => by have := index_ge t [58, 58]; unfold far; split <;> simp_all [joinTail]
  | w :: r, t, h => by
    have e : joinTail [58] (w :: r) = (58 :: w) ++ joinTail [58] r := by simp [joinTail]
    rw [e, List.append_assoc, index_skipC w _ (h w (by simp)), index_tail r t (fun x hx => h x (by simp [hx])), far_far _ _ _ (index_ge _ _)]
    congr 1
    simp
    omega
theorem index_join (ws : List (List UInt8)) (t : List UInt8) (h : ∀ w ∈ ws, OkW w) : index (join ws [58] ++ t) [58, 58] = far (join ws [58]).length (index t [58, 58]) := by
  cases ws with
  | nil => have := index_ge t [58, 58]; unfold far; split <;> simp_all [join_nil]
  | cons w r =>
    rw [join_cons, List.append_assoc, index_skipW _ rfl w _ (h w (by simp)).2, index_tail r t (fun x hx => h x (by simp [hx])), far_far _ _ _ (index_ge _ _)]
    congr 1
    simp
    omega
theorem cut_none (ws : List (List UInt8)) (h : ∀ w ∈ ws, OkW w) : cut (join ws [58]) [58, 58] = (join ws [58], [], false) := by
  have := index_join ws [] h
  rw [List.append_nil] at this
  unfold cut
  rw [this]
  rfl
theorem cut_at (ws : List (List UInt8)) (t : List UInt8) (h : ∀ w ∈ ws, OkW w) : cut (join ws [58] ++ ([58, 58] ++ t)) [58, 58] = (join ws [58], t, true) := by
  have h0 : index (join ws [58] ++ ([58, 58] ++ t)) [58, 58] = ((join ws [58]).length : Int) := by
    rw [index_join ws _ h]
    have : index ([58, 58] ++ t) [58, 58] = 0 := by simp [index, List.isPrefixOf]
    rw [this]
    unfold far
    rw [if_neg (by decide)]
    omega
  unfold cut
  rw [h0, if_pos (by omega), Int.toNat_natCast]
  refine Prod.ext ?_ (Prod.ext ?_ rfl)
  · simp
  · simp
theorem join_two (w v : List UInt8) (r : List (List UInt8)) : join (w :: v :: r) [58] = w ++ 58 :: join (v :: r) [58] := by
  rw [join_cons, join_cons]
  simp [joinTail]
/-- What is joined is split again. -/
theorem split_join : ∀ (ws : List (List UInt8)), ws ≠ [] → (∀ w ∈ ws, ∀ c ∈ w, c ≠ 58) → split (join ws [58]) [58] = ws
  | [], h, _ => absurd rfl h
  | [w], _, hw => by
    have hi : index w [58] = -1 := by
      have := index_skipW [58] rfl w [] (hw w (by simp))
      rw [List.append_nil] at this
      rw [this]
      rfl
    rw [join_one]
    unfold split
    rw [count_miss hi]
    rfl
  | w :: v :: r, _, hw => by
    have ih := split_join (v :: r) (by simp) (fun x hx => hw x (by simp [hx]))
    rw [join_two]
    have hi : index (w ++ 58 :: join (v :: r) [58]) [58] = (w.length : Int) := by
      rw [index_skipW [58] rfl w _ (hw w (by simp))]
      have : index (58 :: join (v :: r) [58]) [58] = 0 := by simp [index, List.isPrefixOf]
      rw [this]
      unfold far
      rw [if_neg (by decide)]
      omega
    unfold split at ih ⊢
    have hd : (w ++ 58 :: join (v :: r) [58]).drop (w.length + [(58 : UInt8)].length) = join (v :: r) [58] := by simp
    rw [count_hit (by simp) hi, hd, Nat.add_comm]
    show splitK [58] 0 (count _ _ + 1) _ = _
    unfold splitK
    rw [if_neg (by rw [hi]; simp), hi, Int.toNat_natCast, hd, ih]
    simp
/-- The numbers of a text. -/
def numsT (s : List UInt8) : List Nat := if s = [] then [] else (split s [58]).map numW
def hexJ (l : List Nat) : List UInt8 := join (l.map hexW) [58]
theorem hexJ_ne {l : List Nat} (h : l ≠ []) : hexJ l ≠ [] := by
  cases l with
  | nil => exact absurd rfl h
  | cons u l =>
    unfold hexJ
    rw [List.map_cons, join_cons]
    have := hexW_ne u
    simp [this]
theorem okW_all (l : List Nat) : ∀ w ∈ l.map hexW, OkW w := fun w hw => by
  obtain ⟨u, _, rfl⟩ := List.mem_map.1 hw
  exact okW_hexW u
theorem numsT_hexJ (l : List Nat) (hl : ∀ u ∈ l, u ≤ 65535) : numsT (hexJ l) = l := by
  cases hl0 : l with
  | nil => rfl
  | cons u r =>
    rw [← hl0]
    have hne : l ≠ [] := by rw [hl0]; simp
    unfold numsT
    rw [if_neg (hexJ_ne hne)]
    unfold hexJ
    rw [split_join _ (by simpa using hne) (fun w hw => (okW_all l w hw).2), List.map_map]
    refine (List.map_congr_left fun u hu => ?_).trans (List.map_id l)
    exact numW_hexW u (hl u hu)
/-- The longest run of noughts, of several the first: where it begins, how long it is. -/
def noughts (l : List Nat) (i : Nat) : Nat := ((l.drop i).takeWhile (· == 0)).length
def runS (l : List Nat) (p : Nat × Nat) (i : Nat) : Nat × Nat := if p.2 < noughts l i then (i, noughts l i) else p
def runL (l : List Nat) (k : Nat) : Nat × Nat := (List.range k).foldl (runS l) (0, 0)
theorem runL_succ (l : List Nat) (k : Nat) : runL l (k + 1) = runS l (runL l k) k := by simp [runL, List.range_succ]
theorem noughts_le (l : List Nat) (i : Nat) : noughts l i ≤ l.length - i := by
  unfold noughts
  have := (List.takeWhile_sublist (l := l.drop i) (· == 0)).length_le
  rw [List.length_drop] at this
  exact this
theorem noughts_zero (l : List Nat) (i : Nat) : (l.drop i).take (noughts l i) = List.replicate (noughts l i) 0 := by
  unfold noughts
  generalize l.drop i = r
  induction r with
  | nil => rfl
  | cons x r ih =>
    by_cases hx : x = 0
    · subst hx
      simp only [List.takeWhile_cons, beq_self_eq_true, if_true, List.length_cons, List.take_succ_cons, List.replicate_succ, ih]
    · simp [hx]
theorem runL_is (l : List Nat) (k : Nat) (hk : k ≤ l.length) : (runL l k).2 = noughts l (runL l k).1 ∧ (runL l k).1 ≤ l.length ∨ runL l k = (0, 0) := by
  induction k with
  | zero => exact .inr rfl
  | succ k ih =>
    rw [runL_succ]
    unfold runS
    split
    · exact .inl ⟨rfl, by show k ≤ _; omega⟩
    · exact ih (by omega)
/-- An address as a text. -/
def textL (l : List Nat) : List UInt8 := if (runL l 8).2 < 2 then hexJ l else hexJ (l.take (runL l 8).1) ++ [58, 58] ++ hexJ (l.drop ((runL l 8).1 + (runL l 8).2))
/-- What is read from a text, ahead of the check. -/
def readL (t : List UInt8) : Option (List Nat) :=
  if (numsT (cut t [58, 58]).1).length + (numsT (cut t [58, 58]).2.1).length ≤ 8 then
    some (numsT (cut t [58, 58]).1 ++ List.replicate (8 - (numsT (cut t [58, 58]).1).length - (numsT (cut t [58, 58]).2.1).length) 0 ++ numsT (cut t [58, 58]).2.1)
  else none
theorem read_text (l : List Nat) (h8 : l.length = 8) (hl : ∀ u ∈ l, u ≤ 65535) : readL (textL l) = some l := by
  unfold textL
  by_cases hlong : (runL l 8).2 < 2
  · rw [if_pos hlong]
    unfold readL
    rw [show cut (hexJ l) [58, 58] = (hexJ l, [], false) from cut_none _ (okW_all l)]
    rw [numsT_hexJ l hl, show numsT [] = [] from rfl, if_pos (by simp [h8]), h8]
    simp
  · rw [if_neg hlong]
    obtain ⟨a, ha⟩ : ∃ a, a = (runL l 8).1 := ⟨_, rfl⟩
    obtain ⟨n, hn⟩ : ∃ n, n = (runL l 8).2 := ⟨_, rfl⟩
    rcases runL_is l 8 (by omega) with ⟨h2, h1⟩ | h0
    · rw [← ha, ← hn] at *
      have hle := noughts_le l a
      have hz := noughts_zero l a
      rw [← h2] at hle hz
      unfold readL
      rw [List.append_assoc, show cut (hexJ (l.take a) ++ ([58, 58] ++ hexJ (l.drop (a + n)))) [58, 58] = (hexJ (l.take a), hexJ (l.drop (a + n)), true) from cut_at _ _ (okW_all _)]
      dsimp only
      rw [numsT_hexJ _ (fun u hu => hl u (List.mem_of_mem_take hu)), numsT_hexJ _ (fun u hu => hl u (List.mem_of_mem_drop hu))]
      have e1 : (l.take a).length = a := by simp; omega
      have e2 : (l.drop (a + n)).length = 8 - a - n := by simp; omega
      rw [if_pos (by omega), e1, e2, show 8 - a - (8 - a - n) = n by omega, ← hz]
      congr 1
      rw [show l.drop (a + n) = (l.drop a).drop n by rw [List.drop_drop], List.append_assoc, List.take_append_drop, List.take_append_drop]
    · rw [h0] at hlong
      exact absurd (by decide : (0 : Nat) < 2) hlong
theorem hexJ_len (l : List Nat) : (hexJ l).length ≤ 5 * l.length := by
  unfold hexJ
  induction l with
  | nil => simp [join_nil]
  | cons u r ih =>
    cases r with
    | nil => rw [List.map_cons, List.map_nil, join_one]; have := hexW_len u; simp; omega
    | cons v r =>
      simp only [List.map_cons] at ih ⊢
      rw [join_two]
      have := hexW_len u
      simp only [List.length_append, List.length_cons] at ih ⊢
      omega
theorem hexJ_len' (l : List Nat) (h : l ≠ []) : (hexJ l).length + 1 ≤ 5 * l.length := by
  unfold hexJ
  induction l with
  | nil => exact absurd rfl h
  | cons u r ih =>
    cases r with
    | nil => rw [List.map_cons, List.map_nil, join_one]; have := hexW_len u; simp; omega
    | cons v r =>
      have ih := ih (by simp)
      simp only [List.map_cons] at ih ⊢
      rw [join_two]
      have := hexW_len u
      simp only [List.length_append, List.length_cons] at ih ⊢
      omega
theorem text_len (l : List Nat) (h8 : l.length = 8) : (textL l).length ≤ 39 := by
  unfold textL
  split
  · have := hexJ_len' l (by intro h; rw [h] at h8; cases h8); omega
  · rename_i hlong
    rcases runL_is l 8 (by omega) with ⟨h2, h1⟩ | h0
    · have hle := noughts_le l (runL l 8).1
      have e1 := hexJ_len (l.take (runL l 8).1)
      have e2 := hexJ_len (l.drop ((runL l 8).1 + (runL l 8).2))
      simp only [List.length_take, List.length_drop, List.length_append, List.length_cons, List.length_nil] at e1 e2 ⊢
      omega
    · rw [h0] at hlong; exact absurd (by decide : (0 : Nat) < 2) hlong
theorem text_inj {l m : List Nat} (hl8 : l.length = 8) (hm8 : m.length = 8) (hl : ∀ u ∈ l, u ≤ 65535) (hm : ∀ u ∈ m, u ≤ 65535) (h : textL l = textL m) : l = m := by
  have a := read_text l hl8 hl
  rw [h, read_text m hm8 hm] at a
  exact (Option.some.inj a).symm
end Go.Proofs.YtonjifkjammopaaGreatDoor.Pl
