/- addr.Parse4 of a four's text. Conditions: as each lemma states them. -/
import Derived.Test.YtonjifkjammopaaGreatDoorDec4
namespace Go.Proofs.YtonjifkjammopaaGreatDoor
open Go.Shelf Go.RowKit
namespace Pl
open Go.Lib
theorem index_skipG (q : UInt8) (sub : List UInt8) (hs : sub.head? = some q) : ∀ (w t : List UInt8), (∀ c ∈ w, c ≠ q) → index (w ++ t) sub = far w.length (index t sub)
  | [], t, _ => by have := index_ge t sub; unfold far; split <;> simp_all
  | c :: w, t, h => by
    obtain ⟨s, rfl⟩ : ∃ s, sub = q :: s := by
      cases sub with
      | nil => cases hs
      | cons a s => cases hs; exact ⟨s, rfl⟩
    have hc : c ≠ q := h c (by simp)
    rw [List.cons_append, index_skip1 c _ _ (by simp [List.isPrefixOf, Ne.symm hc]), index_skipG q _ rfl w t (fun x hx => h x (by simp [hx])), far_far _ _ _ (index_ge _ _)]
    rfl
theorem join_twoG (q : UInt8) (w v : List UInt8) (r : List (List UInt8)) : join (w :: v :: r) [q] = w ++ q :: join (v :: r) [q] := by
  rw [join_cons, join_cons]
  simp [joinTail]
theorem split_joinG (q : UInt8) : ∀ (ws : List (List UInt8)), ws ≠ [] → (∀ w ∈ ws, ∀ c ∈ w, c ≠ q) → split (join ws [q]) [q] = ws
  | [], h, _ => absurd rfl h
  | [w], _, hw => by
    have hi : index w [q] = -1 := by
      have := index_skipG q [q] rfl w [] (hw w (by simp))
      rw [List.append_nil] at this
      rw [this]
      rfl
    rw [join_one]
    unfold split
    rw [count_miss hi]
    rfl
  | w :: v :: r, _, hw => by
    have ih := split_joinG q (v :: r) (by simp) (fun x hx => hw x (by simp [hx]))
    rw [join_twoG]
    have hi : index (w ++ q :: join (v :: r) [q]) [q] = (w.length : Int) := by
      rw [index_skipG q [q] rfl w _ (hw w (by simp))]
      have : index (q :: join (v :: r) [q]) [q] = 0 := by simp [index, List.isPrefixOf]
      rw [this]
      unfold far
      rw [if_neg (by decide)]
      omega
    unfold split at ih ⊢
    have hd : (w ++ q :: join (v :: r) [q]).drop (w.length + [q].length) = join (v :: r) [q] := by simp
    rw [count_hit (by simp) hi, hd, Nat.add_comm]
    show splitK [q] 0 (count _ _ + 1) _ = _
    unfold splitK
    rw [if_neg (by rw [hi]; simp), hi, Int.toNat_natCast, hd, ih]
    simp
end Pl
theorem bytes_inj : ∀ {xs ys : List ByteArray}, xs.map (·.data.toList) = ys.map (·.data.toList) → xs = ys
  | [], [], _ => rfl
  | [], _ :: _, h => by simp at h
  | _ :: _, [], h => by simp at h
  | x :: xs, y :: ys, h => by
    simp only [List.map_cons, List.cons.injEq] at h
    have : x = y := by
      have := Array.ext' h.1
      cases x; cases y; cases this; rfl
    rw [this, bytes_inj h.2]
theorem words4 (n : Nat) : wordsB (txtB (text4 n)) ⟨#[46]⟩ = octs n 4 := by
  refine bytes_inj ?_
  rw [wordsB_data]
  show Lib.split (text4 n) [46] = _
  unfold text4
  rw [Pl.split_joinG 46 _ (by simp) (by
    intro w hw
    simp only [List.mem_cons, List.not_mem_nil, or_false] at hw
    rcases hw with rfl | rfl | rfl | rfl
    · exact dec3_dotf ⟨_, oct_lt n 0⟩
    · exact dec3_dotf ⟨_, oct_lt n 1⟩
    · exact dec3_dotf ⟨_, oct_lt n 2⟩
    · exact dec3_dotf ⟨_, oct_lt n 3⟩)]
  rfl
theorem oct_step (n k : Nat) (hk : k < 4) : n / 256 ^ (4 - k) * 256 + oct n k = n / 256 ^ (4 - (k + 1)) := by
  unfold oct
  have e : 256 ^ (4 - k) = 256 ^ (3 - k) * 256 := by rw [← Nat.pow_succ]; congr 1; omega
  rw [e, ← Nat.div_div_eq_div_mul, show 4 - (k + 1) = 3 - k by omega]
  omega
set_option maxRecDepth 100000 in
set_option maxHeartbeats 1000000 in
theorem parse4_back (n : Nat) (w : World) (T : Tabs w) (h : n < 4294967296) : Calls Tryz.prog 19 #[.string (txtB (text4 n))] w fun e w' => e = .returned (.tuple #[.int .i64 (n : Int), .nilIface]) ∧ Ext w w' := by
  have hS := split_any (txtB (text4 n)) ⟨#[46]⟩ w T (by rw [txtB_size]; have := text4_len n; omega) (by decide)
  rw [words4] at hS
  have hS : Calls Tryz.prog 34 #[.string (txtB (text4 n)), .string ⟨#[46]⟩] w fun e w' => e = .returned (.slice (some ⟨w.heap.size, 0, none⟩) 4 4) ∧ KStr.See w' (some ⟨w.heap.size, 0, none⟩) 4 (octs n 4) ∧ Ext w w' := hS
  have HS := Lib.hid hS
  have HT := Lib.hid T
  clear hS T
  generalize txtB (text4 n) = T4 at *
  go_enter Tryz.func19, Tryz.ntmps19
  go_wp2_with fail
  refine HS.out.mono ?_
  rintro e W1 ⟨rfl, hw, E1⟩
  have HW := Lib.hid hw
  have HE1 := Lib.hid E1
  clear hw E1 HS
  go_wp2_with fail
  go_loopw [5, 18] (fun va vi wr => ∃ (k a : Nat), k ≤ 4 ∧ (a = n / 256 ^ (4 - k) ∧ a < 4294967296) ∧ va = .int .i64 (a : Int) ∧ vi = .int .i64 (k : Int) ∧ Ext W1 wr) (fun _ vi _ => 4 - (intOf vi).toNat)
  case atStart => exact ⟨0, 0, by omega, ⟨by show 0 = n / 4294967296; omega, by omega⟩, rfl, rfl, Ext.refl _⟩
  case round =>
    obtain ⟨k, a, hk, ⟨ha, ha2⟩, rfl, rfl, Er⟩ := hrel
    have HE := Lib.hid Er
    have HA := Lib.hid ha
    clear ha
    have wk : IntKind.i64.wrap ((k : Int) + 1) = (k : Int) + 1 := IntWalk.i64_in _ (by omega)
    by_cases hlt : k < 4
    case neg =>
      obtain rfl : k = 4 := by omega
      have han : a = n := by have := HA.out; simpa using this
      subst han
      clear Er
      go_wp2_with fail
      go_returns
      exact ⟨rfl, HE1.out.trans HE.out⟩
    have hlt' : (k : Int) < 4 := by omega
    have hx : (octs n 4)[k]? = some (txtB (dec3 (oct n k))) := by
      have hkk : k = 0 ∨ k = 1 ∨ k = 2 ∨ k = 3 := by omega
      rcases hkk with rfl | rfl | rfl | rfl <;> rfl
    have hc := (HW.out.ext Er).strs (by omega) k _ hx
    rw [Nat.zero_add] at hc
    have HAT := Lib.hid (fun (W : World) => atoi_u8 (oct n k) (oct_lt n k) W)
    have HIT := Lib.hid (fun (W : World) (TW : Tabs W) => itoa_u8 (oct n k) (oct_lt n k) W TW)
    have hst := oct_step n k hlt
    rw [← HA.out] at hst
    have ho := oct_lt n k
    have hsz := Nat.lt_of_le_of_lt (Nat.div_le_self n (256 ^ (4 - (k + 1)))) h
    have HST := Lib.hid hst
    have hb1 : (a : Int) * 256 + 256 < 9223372036854775807 := by omega
    generalize oct n k = o at *
    generalize txtB (dec3 o) = S at *
    have hor := or8 (x := (a : Int) * 256) (y := (o : Int)) (by omega) (by omega) (by omega) (by omega) (by omega)
    have hwr : IntKind.i64.wrap ((a : Int) * 256) = (a : Int) * 256 := IntWalk.i64_in _ (by omega)
    have ho2 : (o : Int) ≤ 255 := by omega
    have HSZ := Lib.hid hsz
    clear Er hst hx hsz hb1
    go_wp2_with fail
    refine (HAT.out _).mono ?_
    rintro e W2 ⟨rfl, E2⟩
    go_wp2_with fail
    refine (HIT.out _ (HT.out.ext (HE1.out.trans (HE.out.trans E2)))).mono ?_
    rintro e W3 ⟨rfl, E3⟩
    go_wp2_with fail
    have hsz2 : a * 256 + o < 4294967296 := by rw [HST.out]; exact HSZ.out
    have hcast : (a : Int) * 256 + (o : Int) = ((a * 256 + o : Nat) : Int) := by omega
    have HEE := (HE.out.trans E2).trans E3
    have hS1 := HST.out
    clear HW HAT HIT
    generalize a * 256 + o = b at *
    refine ⟨⟨k + 1, b, by omega, ⟨hS1, hsz2⟩, ?_, ?_, HEE⟩, ?_⟩
    · rw [← hcast]
    · rfl
    · simp [intOf]; omega
end Go.Proofs.YtonjifkjammopaaGreatDoor
