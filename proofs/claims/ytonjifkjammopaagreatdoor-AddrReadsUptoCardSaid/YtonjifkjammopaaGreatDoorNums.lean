/- addr.numbers of any text. Conditions: as each lemma states them. -/
import Derived.Test.YtonjifkjammopaaGreatDoorHex
import Derived.Deep.DeepCutAuto
namespace Go.Proofs.YtonjifkjammopaaGreatDoor
open Go.Shelf Go.RowKit
theorem splitB_size (sep : ByteArray) : ∀ (k : Nat) (s x : ByteArray), x ∈ Lib.splitB sep 0 k s → x.size ≤ s.size
  | 0, s, x, h => by
    have : x = s := by simpa [Lib.splitB] using h
    rw [this]
    exact Nat.le_refl _
  | k + 1, s, x, h => by
    unfold Lib.splitB at h
    split at h
    · have : x = s := by simpa using h
      rw [this]
      exact Nat.le_refl _
    · rcases List.mem_cons.1 h with rfl | h
      · rw [ByteArray.size_extract]; omega
      · have := splitB_size sep k _ x h
        rw [ByteArray.size_extract] at this
        omega
theorem Tryz.hi9 : (Tryz.prog.info? 9).map (fun i => (i.zero, i.size, i.bytes)) = some (some (.string ByteArray.empty), 1, 16) := Tryz.infoStr
def wordsB (t sep : ByteArray) : List ByteArray := Lib.splitB sep 0 (Lib.countB t sep) t
theorem wordsB_len (t sep : ByteArray) (h : 1 ≤ sep.size) : (wordsB t sep).length = Lib.countB t sep + 1 := Lib.splitB_all sep h 0 _ t rfl
theorem wordsB_data (t sep : ByteArray) : (wordsB t sep).map (·.data.toList) = Lib.split t.data.toList sep.data.toList := Lib.splitB_data sep 0 _ t
/-- strings.Split. -/
theorem split_any (t sep : ByteArray) (w : World) (T : Tabs w) (hs : t.size < 4294967281) (h1 : 1 ≤ sep.size) :
    Calls Tryz.prog 34 #[.string t, .string sep] w fun e w' => e = .returned (.slice (some ⟨w.heap.size, 0, none⟩) (wordsB t sep).length (wordsB t sep).length) ∧ KStr.See w' (some ⟨w.heap.size, 0, none⟩) (wordsB t sep).length (wordsB t sep) ∧ Ext w w' := by
  obtain ⟨m, hm⟩ := T.ml
  refine (Any.strings_Split laysSplit Tryz.hi9 t sep m w hs hm h1).mono ?_
  rintro e w' ⟨rfl, rfl⟩
  refine ⟨by rw [wordsB_len t sep h1], Kin.See.blk (Blk.new w 9 _) ?_, (Ext.refl w).alloc _⟩
  show (List.map Value.string (wordsB t sep)) = KStr.cells (wordsB t sep)
  unfold Kin.cells KStr
  generalize wordsB t sep = l
  induction l with
  | nil => rfl
  | cons x r ih => rw [List.map_cons, List.flatMap_cons, ← ih]; rfl
def numB (x : ByteArray) : Int := (Pl.numW x.data.toList : Int)
set_option maxRecDepth 100000 in
set_option maxHeartbeats 1000000 in
theorem nums_any (t : ByteArray) (w : World) (T : Tabs w) (hs : t.size ≤ 1000000) :
    Calls Tryz.prog 28 #[.string t] w fun e w' => ∃ v, e = .returned v ∧ KI.Own 3 w' w.heap.size v ((Pl.numsT t.data.toList).map fun n : Nat => (n : Int)) ∧ Ext w w' := by
  by_cases hne : t.size = 0
  · have ht : t = ⟨#[]⟩ := by
      obtain ⟨⟨l⟩⟩ := t
      cases l with
      | nil => rfl
      | cons _ _ => simp [ByteArray.size] at hne
    subst ht
    go_enter Tryz.func28, Tryz.ntmps28
    go_wp2_with fail
    go_returns
    exact ⟨_, rfl, Kin.Own.nil _ _, Ext.refl _⟩
  have hemp : t.toList.isEmpty = false := by
    rw [← decide_eq_emptyBytes]
    exact decide_eq_false (fun h => hne (by rw [h]; rfl))
  have hns : Pl.numsT t.data.toList = (wordsB t ⟨#[58]⟩).map fun x => Pl.numW x.data.toList := by
    unfold Pl.numsT
    rw [if_neg (fun h => hne (by rw [Lib.size_eq, h]; rfl))]
    show (Lib.split t.data.toList (⟨#[58]⟩ : ByteArray).data.toList).map Pl.numW = _
    rw [← wordsB_data, List.map_map]
    rfl
  rw [hns, List.map_map]
  have hsz : ∀ x ∈ wordsB t ⟨#[58]⟩, x.size ≤ t.size := fun x hx => splitB_size _ _ _ x hx
  have hS := split_any t ⟨#[58]⟩ w T (by omega) (by decide)
  have hlen : (wordsB t ⟨#[58]⟩).length ≤ t.size + 1 := by
    rw [wordsB_len t ⟨#[58]⟩ (by decide)]
    have := Lib.countB_le ⟨#[58]⟩ (by decide) t.size t (Nat.le_refl _)
    omega
  clear hns hne
  generalize wordsB t ⟨#[58]⟩ = ws at hS hsz hlen ⊢
  generalize hn : ws.length = n at hS hlen
  have HZ := Lib.hid hsz
  have HT := Lib.hid T
  have HS := Lib.hid hS
  clear hsz T hS
  go_enter Tryz.func28, Tryz.ntmps28
  go_wp2_with fail
  refine HS.out.mono ?_
  rintro e W1 ⟨rfl, hw, E1⟩
  have HW := Lib.hid hw
  have HE1 := Lib.hid E1
  clear hw E1
  go_wp2_with fail
  go_loopw [3, 13] (fun v i wr => ∃ k : Nat, k ≤ n ∧ i = .int .i64 (k : Int) ∧ KI.Own 3 wr W1.heap.size v ((ws.take k).map numB) ∧ Ext W1 wr) (fun _ i _ => n - (intOf i).toNat)
  case atStart => exact ⟨0, Nat.zero_le _, rfl, Kin.Own.nil _ _, Ext.refl _⟩
  case round =>
    obtain ⟨k, hk, rfl, o, Er⟩ := hrel
    have wk : IntKind.i64.wrap ((k : Int) + 1) = (k : Int) + 1 := IntWalk.i64_in _ (by omega)
    have HO := Lib.hid o
    have HE := Lib.hid Er
    by_cases hlt : k < n
    case neg =>
      obtain rfl : k = n := by omega
      rw [List.take_of_length_le (by omega)] at o
      have HO2 := Lib.hid o
      clear o Er
      go_wp2_with fail
      go_returns
      exact ⟨_, rfl, HO2.out.mono HE1.out.size, HE1.out.trans HE.out⟩
    obtain ⟨x, hx⟩ : ∃ x, ws[k]? = some x := ⟨_, List.getElem?_eq_getElem (by omega)⟩
    have hc := (HW.out.ext Er).strs (by omega) k x hx
    rw [Nat.zero_add] at hc
    have htake : ws.take (k + 1) = ws.take k ++ [x] := by rw [List.take_add_one, hx]; rfl
    have HTK := Lib.hid htake
    have hxs := HZ.out x (List.mem_of_getElem? hx)
    have HP := Lib.hid (puint_any x (by omega) wr (HT.out.ext (HE1.out.trans Er)))
    have hlt' : (k : Int) < (n : Int) := by omega
    have hz := HE1.out.size
    have hz2 := Er.size
    clear o Er htake hxs
    go_wp2_with fail
    refine HP.out.mono ?_
    rintro e W2 ⟨he, E2⟩
    have hz3 := E2.size
    rcases he with ⟨u, ⟨hu1, hu2⟩, rfl⟩ | ⟨u, p, hu, rfl⟩
    · have hnb : numB x = (u : Int) := by unfold numB Pl.numW; rw [if_neg hu1, hu2]; rfl
      have hule := Pl.hexP_le _ 0 u (by omega) hu2
      have HN := Lib.hid hnb
      have wu : IntKind.i64.wrap (u : Int) = (u : Int) := IntWalk.i64_in _ (by omega)
      clear hnb hu1 hu2 HP
      go_wp2_with (at_builtin; refine Halt.out ?_)
      refine Halt.mk ?_
      refine appI rfl _ _ rfl W1.heap.size _ ((ws.take k).map numB) rfl ((HO.out.ext E2).ext ((Ext.refl W2).alloc _)) _ 1 1 [(u : Int)] rfl (Blk.new W2 _ _).ints1 (by simp; omega) (by simp; omega) ?_
      intro v3 W3 o3 _ b3
      rw [← HN.out] at o3
      have HO3 := Lib.hid o3
      have HB3 := Lib.hid b3
      clear o3 b3
      go_wp2_with fail
      refine ⟨⟨k + 1, by omega, rfl, ?_, ?_⟩, by simp [intOf]; omega⟩
      · rw [HTK.out, List.map_append]
        exact HO3.out
      · exact Below.trans ((HE.out.trans E2).alloc _) HB3.out
    · have hnb : numB x = 0 := by
        unfold numB Pl.numW
        rcases hu with hu | hu
        · rw [if_pos hu]; rfl
        · by_cases h0 : x.data.toList = []
          · rw [if_pos h0]; rfl
          · rw [if_neg h0, hu]; rfl
      have HN := Lib.hid hnb
      clear hnb hu HP
      go_wp2_with (at_builtin; refine Halt.out ?_)
      refine Halt.mk ?_
      refine appI rfl _ _ rfl W1.heap.size _ ((ws.take k).map numB) rfl ((HO.out.ext E2).ext ((Ext.refl W2).alloc _)) _ 1 1 [(0 : Int)] rfl (Blk.new W2 _ _).ints1 (by simp; omega) (by simp; omega) ?_
      intro v3 W3 o3 _ b3
      rw [← HN.out] at o3
      have HO3 := Lib.hid o3
      have HB3 := Lib.hid b3
      clear o3 b3
      go_wp2_with fail
      refine ⟨⟨k + 1, by omega, rfl, ?_, ?_⟩, by simp [intOf]; omega⟩
      · rw [HTK.out, List.map_append]
        exact HO3.out
      · exact Below.trans ((HE.out.trans E2).alloc _) HB3.out
end Go.Proofs.YtonjifkjammopaaGreatDoor
