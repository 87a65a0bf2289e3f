/- The document's Split of a text at a byte. Conditions: as each lemma states them. -/
import Derived.Test.YtonjifkjammopaaGreatDoorBack4
import Derived.Deep.DeepCutAuto
namespace Go.Proofs.YtonjifkjammopaaGreatDoor
open Go.RowKit
namespace Pl
open Go.Lib
/-- A text, cut at a byte: what is read so far, what is to come. -/
def spl (q : UInt8) : List UInt8 → List UInt8 → List (List UInt8)
  | cur, [] => [cur]
  | cur, x :: r => if x = q then cur :: spl q [] r else spl q (cur ++ [x]) r
theorem spl_word (q : UInt8) : ∀ (w cur : List UInt8), (∀ c ∈ w, c ≠ q) → spl q cur w = [cur ++ w]
  | [], cur, _ => by simp [spl]
  | x :: w, cur, h => by
    rw [spl, if_neg (h x (by simp)), spl_word q w _ (fun c hc => h c (by simp [hc]))]
    simp
theorem spl_at (q : UInt8) (r : List UInt8) : ∀ (w cur : List UInt8), (∀ c ∈ w, c ≠ q) → spl q cur (w ++ q :: r) = (cur ++ w) :: spl q [] r
  | [], cur, _ => by simp [spl]
  | x :: w, cur, h => by
    rw [List.cons_append, spl, if_neg (h x (by simp)), spl_at q r w _ (fun c hc => h c (by simp [hc]))]
    simp
theorem first (q : UInt8) : ∀ (s : List UInt8), (∀ c ∈ s, c ≠ q) ∨ ∃ w r, s = w ++ q :: r ∧ ∀ c ∈ w, c ≠ q
  | [] => .inl (fun _ h => by cases h)
  | x :: s => by
    by_cases hx : x = q
    · exact .inr ⟨[], s, by rw [hx]; rfl, fun _ h => by cases h⟩
    · rcases first q s with h | ⟨w, r, rfl, h⟩
      · exact .inl (fun c hc => by
          rcases List.mem_cons.1 hc with rfl | hc
          · exact hx
          · exact h c hc)
      · exact .inr ⟨x :: w, r, rfl, fun c hc => by
          rcases List.mem_cons.1 hc with rfl | hc
          · exact hx
          · exact h c hc⟩
theorem split_one (q : UInt8) (w : List UInt8) (h : ∀ c ∈ w, c ≠ q) : split w [q] = [w] := by
  have := split_joinG q [w] (by simp) (fun x hx => by rw [List.mem_singleton.1 hx]; exact h)
  rwa [join_one] at this
theorem split_more (q : UInt8) (w r : List UInt8) (h : ∀ c ∈ w, c ≠ q) : split (w ++ q :: r) [q] = w :: split r [q] := by
  have hi : index (w ++ q :: r) [q] = (w.length : Int) := by
    rw [index_skipG q [q] rfl w _ h]
    have : index (q :: r) [q] = 0 := by simp [index, List.isPrefixOf]
    rw [this]
    unfold far
    rw [if_neg (by decide)]
    omega
  unfold split
  have hd : (w ++ q :: r).drop (w.length + [q].length) = r := by simp
  rw [count_hit (by simp) hi, hd, Nat.add_comm]
  show splitK [q] 0 (count r [q] + 1) _ = w :: splitK [q] 0 (count r [q]) r
  rw [splitK, if_neg (by rw [hi]; simp), hi, Int.toNat_natCast, hd]
  simp
theorem split_spl (q : UInt8) : ∀ (n : Nat) (s : List UInt8), s.length ≤ n → split s [q] = spl q [] s
  | n, s, hn => by
    rcases first q s with h | ⟨w, r, rfl, h⟩
    · rw [split_one q s h, spl_word q s [] h]
      rfl
    · cases n with
      | zero => simp at hn
      | succ n =>
        rw [split_more q w r h, spl_at q r w [] h, split_spl q n r (by simp at hn; omega)]
        rfl
end Pl
set_option maxRecDepth 100000 in
set_option maxHeartbeats 1000000 in
theorem rsplit_any (t : ByteArray) (w : World) (ht : t.size ≤ 1048576) :
    Calls Tryz.prog 33 #[.string t, .int .u8 46] w fun e w' => ∃ v, e = .returned v ∧ KStr.Own 9 w' w.heap.size v (wordsB t ⟨#[46]⟩) ∧ Ext w w' := by
  obtain ⟨bs, hbs⟩ : ∃ bs, bs = t.data.toList := ⟨_, rfl⟩
  have hbl : bs.length = t.size := by rw [hbs, Lib.size_eq]
  have hW : (wordsB t ⟨#[46]⟩).map (·.data.toList) = Pl.spl 46 [] bs := by
    rw [wordsB_data, hbs]
    exact Pl.split_spl 46 _ _ (Nat.le_refl _)
  have HW := Lib.hid hW
  have HBS := Lib.hid hbs
  clear hW
  go_enter Tryz.func33, Tryz.ntmps33
  go_wp2_with fail
  go_loopw [5, 6, 7] (fun v vo vi wr => ∃ (o i : Nat) (ws : List ByteArray), o ≤ i ∧ i ≤ t.size ∧ vo = .int .i64 (o : Int) ∧ vi = .int .i64 (i : Int) ∧ Hid (Pl.spl 46 [] bs = ws.map (·.data.toList) ++ Pl.spl 46 ((bs.take i).drop o) (bs.drop i)) ∧ ws.length ≤ i ∧ KStr.Own 9 wr w.heap.size v ws ∧ Ext w wr) (fun _ _ vi _ => t.size - (intOf vi).toNat)
  case atStart => exact ⟨0, 0, [], Nat.le_refl _, Nat.zero_le _, rfl, rfl, Lib.hid (by simp), by simp, Kin.Own.nil _ _, Ext.refl _⟩
  case round =>
    obtain ⟨o, i, ws, hoi, hi, rfl, rfl, HS, hwl, ow, Er⟩ := hrel
    have wi : IntKind.i64.wrap ((i : Int) + 1) = (i : Int) + 1 := IntWalk.i64_in _ (by omega)
    have HO := Lib.hid ow
    have HE := Lib.hid Er
    have hzr := Er.size
    by_cases hlt : i < t.size
    case neg =>
      obtain rfl : i = t.size := by omega
      have hlt' : ¬ (t.size : Int) < (t.size : Int) := by omega
      have hwords : ws ++ [t.extract o t.size] = wordsB t ⟨#[46]⟩ := by
        refine bytes_inj ?_
        have e1 : bs.drop t.size = [] := List.drop_of_length_le (by omega)
        have e2 : bs.take t.size = bs := List.take_of_length_le (by omega)
        rw [HW.out, HS.out, e1, e2, List.map_append, List.map_cons, List.map_nil, HBS.out]
        show _ ++ [(t.extract o t.size).data.toList] = _ ++ [t.data.toList.drop o]
        rw [Lib.extract_to_end]
      have HWS := Lib.hid hwords
      clear ow Er hwords
      generalize hx : t.extract o t.size = x at *
      go_upto_region 9 with (fail)
      go_wp2_with (at_builtin; refine Halt.out ?_)
      refine Halt.mk ?_
      refine appStr rfl _ _ rfl w.heap.size _ ws rfl (HO.out.ext ((Ext.refl wr).alloc _)) _ 1 1 [x] rfl ((Blk.new wr _ _).str1) (by omega) (by simp; omega) ?_
      intro v3 W3 o3 _ b3
      rw [HWS.out] at o3
      have HO3 := Lib.hid o3
      have HB3 := Lib.hid b3
      clear o3 b3
      go_wp2_with fail
      go_returns
      exact ⟨_, rfl, HO3.out, Below.trans (HE.out.alloc _) HB3.out⟩
    have hlt' : (i : Int) < (t.size : Int) := by omega
    obtain ⟨c, hc⟩ : ∃ c, t[i]'hlt = c := ⟨_, rfl⟩
    have hdrop : bs.drop i = c :: bs.drop (i + 1) := by
      rw [List.drop_eq_getElem_cons (by omega)]
      congr 1
      rw [← hc]
      simp only [hbs]
      rfl
    have HC := Lib.hid hc
    by_cases hq : c.toNat = 46
    case neg =>
      have hq' : ¬ (c.toNat : Int) = 46 := by omega
      have hS2 : Pl.spl 46 [] bs = ws.map (·.data.toList) ++ Pl.spl 46 ((bs.take (i + 1)).drop o) (bs.drop (i + 1)) := by
        rw [HS.out, hdrop, Pl.spl, if_neg (fun h => hq (by rw [h]; rfl))]
        congr 2
        rw [List.take_add_one, List.getElem?_eq_getElem (by omega), List.drop_append_of_le_length (by rw [List.length_take]; omega)]
        have : bs[i]'(by omega) = c := by rw [← hc]; simp only [hbs]; rfl
        rw [this]
        rfl
      have HS2 := Lib.hid hS2
      clear ow Er hS2 hdrop
      go_wp2_with fail
      exact ⟨⟨o, i + 1, ws, by omega, by omega, rfl, rfl, HS2, by omega, HO.out, HE.out⟩, by simp [intOf]; omega⟩
    have hq' : (c.toNat : Int) = 46 := by omega
    have hS2 : Pl.spl 46 [] bs = (ws ++ [t.extract o i]).map (·.data.toList) ++ Pl.spl 46 ((bs.take (i + 1)).drop (i + 1)) (bs.drop (i + 1)) := by
      rw [HS.out, hdrop, Pl.spl, if_pos (UInt8.toNat_inj.1 hq), List.map_append, List.append_assoc]
      congr 1
      rw [List.drop_of_length_le (show (bs.take (i + 1)).length ≤ i + 1 by rw [List.length_take]; omega)]
      show _ = (t.extract o i).data.toList :: _
      congr 1
      rw [Lib.extract_data, HBS.out, List.drop_take]
    have HS2 := Lib.hid hS2
    clear ow Er hS2 hdrop
    generalize hx : t.extract o i = x at *
    go_upto_region 7 with (fail)
    go_wp2_with (at_builtin; refine Halt.out ?_)
    refine Halt.mk ?_
    refine appStr rfl _ _ rfl w.heap.size _ ws rfl (HO.out.ext ((Ext.refl wr).alloc _)) _ 1 1 [x] rfl ((Blk.new wr _ _).str1) (by omega) (by simp; omega) ?_
    intro v3 W3 o3 _ b3
    have HO3 := Lib.hid o3
    have HB3 := Lib.hid b3
    clear o3 b3
    go_wp2_with fail
    exact ⟨⟨i + 1, i + 1, ws ++ [x], by omega, by omega, rfl, rfl, HS2, by simp; omega, HO3.out, Below.trans (HE.out.alloc _) HB3.out⟩, by simp [intOf]; omega⟩
end Go.Proofs.YtonjifkjammopaaGreatDoor
