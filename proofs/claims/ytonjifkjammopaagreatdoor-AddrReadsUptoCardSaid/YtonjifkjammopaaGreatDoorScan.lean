/- The document's way to read an address, group by group, plainly: it reads what is written. Conditions: as each lemma states them. -/
import Derived.Test.YtonjifkjammopaaGreatDoorParseL
namespace Go.Proofs.YtonjifkjammopaaGreatDoor
namespace Pl
open Go.Lib
/-- What a small hex digit is worth. -/
def dgL (c : UInt8) : Option Nat := if 48 ≤ c.toNat ∧ c.toNat ≤ 57 then some (c.toNat - 48) else if 97 ≤ c.toNat ∧ c.toNat ≤ 102 then some (c.toNat - 87) else none
theorem dgL_hexD : ∀ d : Fin 16, dgL (hexD d.val) = some d.val := by decide
theorem dgL_lt {c : UInt8} {d : Nat} (h : dgL c = some d) : d < 16 := by
  unfold dgL at h
  split at h
  · cases h; omega
  · split at h
    · cases h; omega
    · cases h
def takeD : Nat → Nat → Nat → List UInt8 → Nat × Nat × List UInt8
  | 0, k, n, l => (k, n, l)
  | _ + 1, k, n, [] => (k, n, [])
  | f + 1, k, n, c :: l => match dgL c with
    | some d => takeD f (k + 1) (n * 16 + d) l
    | none => (k, n, c :: l)
/-- Behind the digits of a group. -/
def Ends (r : List UInt8) : Prop := r = [] ∨ ∃ t, r = 58 :: t
theorem takeD_ends {f k n : Nat} {r : List UInt8} (h : Ends r) : takeD f k n r = (k, n, r) := by
  cases f with
  | zero => rfl
  | succ f =>
    rcases h with rfl | ⟨t, rfl⟩
    · rfl
    · rfl
theorem dg_mod (v : Nat) : dgL (hexD (v % 16)) = some (v % 16) := dgL_hexD ⟨v % 16, Nat.mod_lt _ (by decide)⟩
theorem takeD_hexW (u : Nat) (hu : u ≤ 65535) (r : List UInt8) (hr : Ends r) : ∃ k, takeD 5 0 0 (hexW u ++ r) = (k, u, r) ∧ 1 ≤ k ∧ k ≤ 4 := by
  unfold hexW hexN
  repeat' split
  all_goals
    simp only [hexK, List.range, List.range.loop, List.map, takeD, dg_mod, Nat.reducePow, Nat.reduceSub, List.cons_append, List.nil_append, takeD_ends hr]
    refine ⟨_, Prod.ext rfl (Prod.ext ?_ rfl), by omega, by omega⟩
    simp (config := { decide := false }) only [Nat.zero_mul, Nat.zero_add, Nat.div_one]
    omega
theorem takeD_bd : ∀ (f k n : Nat) (l : List UInt8), (takeD f k n l).2.1 < (n + 1) * 16 ^ ((takeD f k n l).1 - k) ∧ k ≤ (takeD f k n l).1 ∧ (takeD f k n l).2.2.length + (takeD f k n l).1 = l.length + k
  | 0, k, n, l => by simp [takeD]
  | f + 1, k, n, [] => by simp [takeD]
  | f + 1, k, n, c :: l => by
    unfold takeD
    cases hd : dgL c with
    | none => simp
    | some d =>
      simp only []
      obtain ⟨h1, h2, h3⟩ := takeD_bd f (k + 1) (n * 16 + d) l
      have hdl := dgL_lt hd
      refine ⟨?_, by omega, by rw [h3]; simp; omega⟩
      have e : (takeD f (k + 1) (n * 16 + d) l).1 - k = (takeD f (k + 1) (n * 16 + d) l).1 - (k + 1) + 1 := by omega
      rw [e, Nat.pow_succ]
      refine Nat.lt_of_lt_of_le h1 ?_
      rw [Nat.mul_comm (16 ^ _) 16, ← Nat.mul_assoc]
      exact Nat.mul_le_mul_right _ (by omega)
/-- The groups of a text, ahead of the gap and behind it. -/
def scan : Nat → List Nat → List Nat → Bool → List UInt8 → Option (List Nat × List Nat)
  | 0, _, _, _, _ => none
  | _ + 1, h, m, _, [] => some (h, m)
  | f + 1, h, m, g, c :: l =>
    if (takeD 5 0 0 (c :: l)).1 < 1 ∨ 4 < (takeD 5 0 0 (c :: l)).1 then none else
    match (takeD 5 0 0 (c :: l)).2.2 with
    | [] => some (if g then h else h ++ [(takeD 5 0 0 (c :: l)).2.1], if g then m ++ [(takeD 5 0 0 (c :: l)).2.1] else m)
    | [_] => none
    | c1 :: c2 :: r => if c1 ≠ 58 then none else if c2 = 58 then (if g then none else scan f (h ++ [(takeD 5 0 0 (c :: l)).2.1]) m true r)
        else scan f (if g then h else h ++ [(takeD 5 0 0 (c :: l)).2.1]) (if g then m ++ [(takeD 5 0 0 (c :: l)).2.1] else m) g (c2 :: r)
def scan0 (s : List UInt8) : Option (List Nat × List Nat) :=
  match s with
  | 58 :: 58 :: r => scan (s.length + 1) [] [] true r
  | _ => scan (s.length + 1) [] [] false s
theorem scan_step (f : Nat) (h m : List Nat) (g : Bool) (u : Nat) (hu : u ≤ 65535) (r : List UInt8) (hr : Ends r) : scan (f + 1) h m g (hexW u ++ r) =
    match (generalizing := false) r with
    | [] => some (if g then h else h ++ [u], if g then m ++ [u] else m)
    | [_] => none
    | c1 :: c2 :: r => if c1 ≠ 58 then none else if c2 = 58 then (if g then none else scan f (h ++ [u]) m true r) else scan f (if g then h else h ++ [u]) (if g then m ++ [u] else m) g (c2 :: r) := by
  obtain ⟨k, ht, hk1, hk2⟩ := takeD_hexW u hu r hr
  have hne := hexW_ne u
  cases hw : hexW u with
  | nil => exact absurd hw hne
  | cons c l =>
    rw [hw, List.cons_append] at ht
    rw [List.cons_append, scan, ht, if_neg (by omega)]
theorem hexJ_cons (u v : Nat) (r : List Nat) : hexJ (u :: v :: r) = hexW u ++ 58 :: hexJ (v :: r) := by
  unfold hexJ
  rw [List.map_cons, List.map_cons, join_two]
theorem hexJ_one (u : Nat) : hexJ [u] = hexW u := by
  unfold hexJ
  rw [List.map_cons, List.map_nil, join_one]
theorem hexJ_head (v : Nat) (r : List Nat) : ∃ c t, hexJ (v :: r) = c :: t ∧ c ≠ 58 := by
  have hne := hexW_ne v
  have h58 := hexW_58 v
  have : ∃ t, hexJ (v :: r) = hexW v ++ t := by
    cases r with
    | nil => exact ⟨[], by rw [hexJ_one, List.append_nil]⟩
    | cons w r => exact ⟨_, hexJ_cons v w r⟩
  obtain ⟨t, ht⟩ := this
  cases hw : hexW v with
  | nil => exact absurd hw hne
  | cons c l =>
    rw [hw] at ht h58
    exact ⟨c, l ++ t, by rw [ht, List.cons_append], h58 c (by simp)⟩
theorem scan_words : ∀ (l : List Nat) (f : Nat) (h m : List Nat) (g : Bool), l ≠ [] → (∀ u ∈ l, u ≤ 65535) → (hexJ l).length < f → scan f h m g (hexJ l) = some (if g then (h, m ++ l) else (h ++ l, m))
  | [], _, _, _, _, hne, _, _ => absurd rfl hne
  | [u], f, h, m, g, _, hl, hf => by
    obtain ⟨f, rfl⟩ : ∃ k, f = k + 1 := ⟨f - 1, by omega⟩
    have := scan_step f h m g u (hl u (by simp)) [] (.inl rfl)
    rw [List.append_nil] at this
    rw [hexJ_one, this]
    cases g <;> rfl
  | u :: v :: r, f, h, m, g, _, hl, hf => by
    obtain ⟨f, rfl⟩ : ∃ k, f = k + 1 := ⟨f - 1, by omega⟩
    rw [hexJ_cons] at hf ⊢
    rw [scan_step f h m g u (hl u (by simp)) _ (.inr ⟨_, rfl⟩)]
    obtain ⟨c, t, hc, hc58⟩ := hexJ_head v r
    have ih := scan_words (v :: r) f (if g then h else h ++ [u]) (if g then m ++ [u] else m) g (by simp) (fun x hx => hl x (by simp [hx])) (by simp only [List.length_append, List.length_cons] at hf; omega)
    rw [hc] at ih ⊢
    show (if (58 : UInt8) ≠ 58 then _ else if c = 58 then _ else _) = _
    rw [if_neg (by simp), if_neg hc58, ih]
    cases g <;> simp
theorem scan_gap : ∀ (l : List Nat) (f : Nat) (h m k : List Nat), l ≠ [] → (∀ u ∈ l, u ≤ 65535) → (∀ u ∈ k, u ≤ 65535) → (hexJ l).length + (hexJ k).length + 2 < f → scan f h m false (hexJ l ++ ([58, 58] ++ hexJ k)) = some (h ++ l, m ++ k)
  | [], _, _, _, _, hne, _, _, _ => absurd rfl hne
  | [u], f, h, m, k, _, hl, hk, hf => by
    obtain ⟨f, rfl⟩ : ∃ k, f = k + 1 := ⟨f - 1, by omega⟩
    rw [hexJ_one] at hf ⊢
    rw [show hexW u ++ ([58, 58] ++ hexJ k) = hexW u ++ 58 :: (58 :: hexJ k) from rfl, scan_step f h m false u (hl u (by simp)) _ (.inr ⟨_, rfl⟩)]
    show (if (58 : UInt8) ≠ 58 then _ else if (58 : UInt8) = 58 then (if false = true then none else scan f (h ++ [u]) m true ([] ++ hexJ k)) else _) = _
    rw [if_neg (by simp), if_pos rfl, if_neg (by simp), List.nil_append]
    cases k with
    | nil =>
      obtain ⟨f, rfl⟩ : ∃ k, f = k + 1 := ⟨f - 1, by omega⟩
      simp [hexJ, join_nil, scan]
    | cons v r =>
      rw [scan_words (v :: r) f (h ++ [u]) m true (by simp) hk (by omega)]
      simp
  | u :: v :: r, f, h, m, k, _, hl, hk, hf => by
    obtain ⟨f, rfl⟩ : ∃ k, f = k + 1 := ⟨f - 1, by omega⟩
    rw [hexJ_cons] at hf ⊢
    rw [List.append_assoc, List.cons_append, scan_step f h m false u (hl u (by simp)) _ (.inr ⟨_, rfl⟩)]
    obtain ⟨c, t, hc, hc58⟩ := hexJ_head v r
    have ih := scan_gap (v :: r) f (h ++ [u]) m k (by simp) (fun x hx => hl x (by simp [hx])) hk (by simp only [List.length_append, List.length_cons] at hf; omega)
    rw [hc] at ih ⊢
    show (if (58 : UInt8) ≠ 58 then _ else if c = 58 then _ else scan f (h ++ [u]) m false (c :: t ++ ([58, 58] ++ hexJ k))) = _
    rw [if_neg (by simp), if_neg hc58, ih]
    simp
/-- What the groups make. -/
def scanL (h m : List Nat) : List Nat := h ++ List.replicate (8 - h.length - m.length) 0 ++ m
theorem scan0_text (l : List Nat) (h8 : l.length = 8) (hl : ∀ u ∈ l, u ≤ 65535) : ∃ h m, scan0 (textL l) = some (h, m) ∧ h.length + m.length ≤ 8 ∧ scanL h m = l := by
  unfold textL
  by_cases hlong : (runL l 8).2 < 2
  · rw [if_pos hlong]
    have hne : l ≠ [] := by intro h; rw [h] at h8; cases h8
    obtain ⟨v, r, rfl⟩ : ∃ v r, l = v :: r := by cases l with
      | nil => exact absurd rfl hne
      | cons v r => exact ⟨v, r, rfl⟩
    obtain ⟨c, t, hc, hc58⟩ := hexJ_head v r
    refine ⟨v :: r, [], ?_, by simp at h8 ⊢; omega, by unfold scanL; simp at h8 ⊢; omega⟩
    have e : scan0 (hexJ (v :: r)) = scan ((hexJ (v :: r)).length + 1) [] [] false (hexJ (v :: r)) := by
      rw [hc]
      unfold scan0
      split
      · rename_i heq; exact absurd (List.cons.inj heq).1 hc58
      · rfl
    rw [e, scan_words _ _ _ _ _ hne hl (by omega)]
    rfl
  · rw [if_neg hlong]
    obtain ⟨a, ha⟩ : ∃ a, a = (runL l 8).1 := ⟨_, rfl⟩
    obtain ⟨n, hn⟩ : ∃ n, n = (runL l 8).2 := ⟨_, rfl⟩
    rcases runL_is l 8 (by omega) with ⟨h2, h1⟩ | h0
    · rw [← ha, ← hn] at *
      have hle := noughts_le l a
      have hz := noughts_zero l a
      rw [← h2] at hle hz
      have e1 : (l.take a).length = a := by simp; omega
      have e2 : (l.drop (a + n)).length = 8 - a - n := by simp; omega
      refine ⟨l.take a, l.drop (a + n), ?_, by omega, ?_⟩
      · have hk : ∀ u ∈ l.drop (a + n), u ≤ 65535 := fun u hu => hl u (List.mem_of_mem_drop hu)
        cases hta : l.take a with
        | nil =>
          unfold hexJ
          rw [List.map_nil, join_nil]
          show scan ((([58, 58] : List UInt8) ++ hexJ (l.drop (a + n))).length + 1) [] [] true (hexJ (l.drop (a + n))) = _
          cases hd : l.drop (a + n) with
          | nil => simp [hexJ, join_nil, scan]
          | cons v r =>
            rw [scan_words (v :: r) _ [] [] true (by simp) (by rw [← hd]; exact hk) (by simp; omega)]
            rfl
        | cons v r =>
          obtain ⟨c, t, hc, hc58⟩ := hexJ_head v r
          have e : scan0 (hexJ (v :: r) ++ [58, 58] ++ hexJ (l.drop (a + n))) = scan ((hexJ (v :: r) ++ [58, 58] ++ hexJ (l.drop (a + n))).length + 1) [] [] false (hexJ (v :: r) ++ ([58, 58] ++ hexJ (l.drop (a + n)))) := by
            rw [List.append_assoc, hc]
            unfold scan0
            split
            · rename_i heq; exact absurd (List.cons.inj heq).1 hc58
            · rfl
          rw [e, scan_gap (v :: r) _ [] [] (l.drop (a + n)) (by simp) (fun u hu => hl u (List.mem_of_mem_take (by rw [hta]; exact hu))) hk (by simp; omega)]
          rfl
      · unfold scanL
        rw [e1, e2, show 8 - a - (8 - a - n) = n by omega, ← hz, show l.drop (a + n) = (l.drop a).drop n by rw [List.drop_drop], List.append_assoc, List.take_append_drop, List.take_append_drop]
    · rw [h0] at hlong
      exact absurd (by decide : (0 : Nat) < 2) hlong
end Pl
/-- What the document reads. -/
def rparsed (t : List UInt8) : Option Six :=
  match Pl.scan0 t with
  | some (h, m) => if h.length + m.length ≤ 8 then (if Pl.textL (Pl.scanL h m) = t then some (sixOf (Pl.scanL h m)) else none) else none
  | none => none
theorem rparsed_is (t : List UInt8) (hsc : ∀ h m, Pl.scan0 t = some (h, m) → ∀ u ∈ Pl.scanL h m, u ≤ 65535) : rparsed t = parsed t := by
  cases hp : parsed t with
  | some s =>
    obtain ⟨hok, ht⟩ := parsed_some hp
    obtain ⟨h, m, hs, hle, hL⟩ := Pl.scan0_text s.nl s.nl_len (s.nl_le hok)
    rw [ht] at hs
    unfold rparsed
    rw [hs]
    show (if h.length + m.length ≤ 8 then (if Pl.textL (Pl.scanL h m) = t then some (sixOf (Pl.scanL h m)) else none) else none) = _
    rw [if_pos hle, hL, if_pos ht, nl_sixOf hok]
  | none =>
    unfold rparsed
    cases hs : Pl.scan0 t with
    | none => rfl
    | some p =>
      obtain ⟨h, m⟩ := p
      show (if h.length + m.length ≤ 8 then (if Pl.textL (Pl.scanL h m) = t then some (sixOf (Pl.scanL h m)) else none) else none) = _
      split
      · split
        · rename_i hle htx
          have h8 : (Pl.scanL h m).length = 8 := by unfold Pl.scanL; simp; omega
          have hu := hsc h m hs
          have := parsed_text (s := sixOf (Pl.scanL h m)) (sixOf_ok h8 hu)
          rw [sixOf_nl h8, htx, hp] at this
          cases this
        · rfl
      · rfl
/-- All groups are numbers of 16 bits. -/
theorem Pl.scan_le : ∀ (f : Nat) (h m : List Nat) (g : Bool) (t : List UInt8) (h' m' : List Nat), (∀ u ∈ h, u ≤ 65535) → (∀ u ∈ m, u ≤ 65535) → Pl.scan f h m g t = some (h', m') → (∀ u ∈ h', u ≤ 65535) ∧ ∀ u ∈ m', u ≤ 65535
  | 0, _, _, _, _, _, _, _, _, hs => by simp [Pl.scan] at hs
  | f + 1, h, m, g, [], h', m', hh, hm, hs => by
    simp [Pl.scan] at hs
    obtain ⟨rfl, rfl⟩ := hs
    exact ⟨hh, hm⟩
  | f + 1, h, m, g, c :: l, h', m', hh, hm, hs => by
    have hb := (Pl.takeD_bd 5 0 0 (c :: l)).1
    rw [Pl.scan] at hs
    by_cases hk : (Pl.takeD 5 0 0 (c :: l)).1 < 1 ∨ 4 < (Pl.takeD 5 0 0 (c :: l)).1
    · rw [if_pos hk] at hs; cases hs
    · rw [if_neg hk] at hs
      generalize (Pl.takeD 5 0 0 (c :: l)).1 = k at hb hk
      generalize (Pl.takeD 5 0 0 (c :: l)).2.1 = n at hb hs
      have hn : n ≤ 65535 := by
        have : 16 ^ (k - 0) ≤ 16 ^ 4 := Nat.pow_le_pow_right (by decide) (by omega)
        omega
      have ah : ∀ u ∈ h ++ [n], u ≤ 65535 := fun u hu => by
        rcases List.mem_append.1 hu with hu | hu
        · exact hh u hu
        · rw [List.mem_singleton.1 hu]; exact hn
      have am : ∀ u ∈ m ++ [n], u ≤ 65535 := fun u hu => by
        rcases List.mem_append.1 hu with hu | hu
        · exact hm u hu
        · rw [List.mem_singleton.1 hu]; exact hn
      split at hs
      · cases g
        · simp at hs
          obtain ⟨rfl, rfl⟩ := hs
          exact ⟨ah, hm⟩
        · simp at hs
          obtain ⟨rfl, rfl⟩ := hs
          exact ⟨hh, am⟩
      · cases hs
      · rename_i c1 c2 r _
        split at hs
        · cases hs
        · split at hs
          · split at hs
            · cases hs
            · exact scan_le f _ _ _ _ _ _ ah hm hs
          · cases g
            · exact scan_le f _ _ _ _ _ _ ah hm hs
            · exact scan_le f _ _ _ _ _ _ hh am hs
theorem Pl.scan0_le {t : List UInt8} {h m : List Nat} (hs : Pl.scan0 t = some (h, m)) : (∀ u ∈ h, u ≤ 65535) ∧ ∀ u ∈ m, u ≤ 65535 := by
  unfold Pl.scan0 at hs
  split at hs
  · exact Pl.scan_le _ _ _ _ _ _ _ (fun _ h => by cases h) (fun _ h => by cases h) hs
  · exact Pl.scan_le _ _ _ _ _ _ _ (fun _ h => by cases h) (fun _ h => by cases h) hs
theorem rparsed_eq (t : List UInt8) : rparsed t = parsed t :=
  rparsed_is t (fun h m hs u hu => by
    obtain ⟨h1, h2⟩ := Pl.scan0_le hs
    unfold Pl.scanL at hu
    simp only [List.mem_append, List.mem_replicate] at hu
    rcases hu with (hu | ⟨_, rfl⟩) | hu
    · exact h1 u hu
    · omega
    · exact h2 u hu)
end Go.Proofs.YtonjifkjammopaaGreatDoor
