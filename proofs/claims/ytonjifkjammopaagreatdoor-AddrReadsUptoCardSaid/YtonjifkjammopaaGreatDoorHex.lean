/- addr.hex: numbers of 16 bits as hex words, joined with colons. Conditions: as each lemma states them. -/
import Derived.Test.YtonjifkjammopaaGreatDoorShelf
import Derived.Test.YtonjifkjammopaaGreatDoorFmt
import Derived.Test.YtonjifkjammopaaGreatDoorPu
import Derived.Test.YtonjifkjammopaaGreatDoorRowI
namespace Go.Proofs.YtonjifkjammopaaGreatDoor
open Go.Shelf Go.RowKit
/-- Texts in cells. -/
def KStr : Kin ByteArray := ⟨fun s => [.string s], 1, by decide, fun _ => rfl, fun _ u hu => by rw [List.mem_singleton.1 hu]; rfl⟩
theorem Tryz.infoStr : (Tryz.prog.info? 9).map (fun i => (i.zero, i.size, i.bytes)) = some (some (.string ByteArray.empty), 1, 16) := by kernel_rfl
theorem appStr {w : World} {ops : Array Oper} {rest : List Oper} {o : Oper} {a : Act} {Q : Exit → Act → World → Prop} (hgd : o.guard = none) (s x : Operand)
    (ho : o.op = .call { callee := .builtin .append, args := #[s, x], argTypes := #[65, 65] })
    (B : Nat) (v : Value) (ys : List ByteArray) (hs : a.eval s = v) (hown : KStr.Own 9 w B v ys) (ao : Option Addr) (m c : Nat) (xs : List ByteArray) (hx : a.eval x = .slice ao m c) (hr : KStr.See w ao m xs)
    (hmax : ys.length + m ≤ 1073741824) (hbase : B ≤ w.heap.size)
    (h : ∀ v' w', KStr.Own 9 w' B v' (ys ++ xs) → w.grownBy w' v.ownBlock → Below B w w' → wpList Tryz.prog ops Q rest (a.put o.dst v') w') : wpList Tryz.prog ops Q (o :: rest) a w :=
  appK KStr 65 9 (.string ByteArray.empty) 16 Tryz.underlying65 Tryz.infoStr rfl (by decide) hgd s x ho B v ys hs hown ao m c xs hx hr hmax hbase h
theorem Blk.str1 {w : World} {g : Nat} {t : TypeId} {x : ByteArray} (h : Blk w g t #[.string x]) : KStr.See w (some ⟨g, 0, none⟩) 1 [x] := Kin.See.blk h (by simp [Kin.cells, KStr])
theorem Kin.See.strs {w : World} {b off n : Nat} {xs : List ByteArray} (h : KStr.See w (some ⟨b, off, none⟩) n xs) (hn : 0 < n) : ∀ (j : Nat) x, xs[j]? = some x → w.cell? ⟨b, off + j, none⟩ = some (.string x) := by
  obtain ⟨b', off', he, _, hc⟩ := h.at (Ext.refl w) hn
  cases he
  intro j x hx
  have := hc j x hx 0 (.string x) rfl
  simpa [KStr] using this
theorem extraJoin : Builder.Extra Tryz.prog laysJoin_ren := {
  sizeBuilder := by kernel_rfl
  liesBuilder := by kernel_rfl
  t5 := Tryz.underlying5
  a5 := Tryz.isAgg5
  z5 := Tryz.sizeOf5
  v5 := Tryz.zeroValue5
  infoByte := by kernel_rfl
  cellsByte := by kernel_rfl
  sizeByte := by kernel_rfl
  neB5 := by decide }
/-- strings.Join of rows that are known. -/
theorem join_any (a : Option Addr) (n c : Nat) (xs : List ByteArray) (sep : ByteArray) (w : World) (h : KStr.See w a n xs) (hnc : n ≤ c) (hN : n ≤ 140737488355328)
    (hlen : (Lib.join (xs.map (·.data.toList)) sep.data.toList).length ≤ 140737488355328) :
    Calls Tryz.prog 32 #[.slice a n c, .string sep] w fun e w' => e = .returned (.string ⟨(Lib.join (xs.map (·.data.toList)) sep.data.toList).toArray⟩) ∧ Ext w w' := by
  rcases Nat.eq_zero_or_pos n with hn | hn
  · subst hn
    obtain rfl : xs = [] := List.length_eq_zero_iff.1 h.1
    refine (Any.strings_Join_none laysJoin extraJoin a c sep w).mono ?_
    rintro e w' ⟨rfl, rfl⟩
    exact ⟨rfl, Ext.refl _⟩
  · obtain ⟨b, off, rfl, hb, _⟩ := h.at (Ext.refl w) hn
    have hl := h.1
    have := Any.strings_Join laysJoin extraJoin b off c xs sep w (h.strs hn) hb (by omega) (by omega) hlen
    rw [hl] at this
    exact this
def hexB (x : Int) : ByteArray := ⟨(Pl.hexW x.toNat).toArray⟩
theorem hexB_data (xs : List Int) : (xs.map hexB).map (·.data.toList) = (xs.map Int.toNat).map Pl.hexW := by
  rw [List.map_map, List.map_map]
  exact List.map_congr_left fun x _ => rfl
set_option maxRecDepth 100000 in
set_option maxHeartbeats 1000000 in
theorem hex_any (a : Option Addr) (n c : Nat) (xs : List Int) (w : World) (T : Tabs w) (h : Ints .i64 w a n xs) (hw : ∀ x ∈ xs, 0 ≤ x ∧ x ≤ 65535) (hn : n ≤ 8) (hnc : n ≤ c) :
    Calls Tryz.prog 24 #[.slice a n c] w fun e w' => e = .returned (.string ⟨(Pl.hexJ (xs.map Int.toNat)).toArray⟩) ∧ Ext w w' := by
  have HT := Lib.hid T
  have HI := Lib.hid h
  have HW := Lib.hid hw
  have hlen := h.len
  clear T h hw
  go_enter Tryz.func24, Tryz.ntmps24
  go_wp2_with fail
  go_loopw [3, 8] (fun v i wr => ∃ k : Nat, k ≤ n ∧ i = .int .i64 (k : Int) ∧ KStr.Own 9 wr w.heap.size v ((xs.take k).map hexB) ∧ Ext w wr) (fun _ i _ => n - (intOf i).toNat)
  case atStart => exact ⟨0, Nat.zero_le _, rfl, Kin.Own.nil _ _, Ext.refl _⟩
  case round =>
    obtain ⟨k, hk, rfl, o, Er⟩ := hrel
    have wk : IntKind.i64.wrap ((k : Int) + 1) = (k : Int) + 1 := IntWalk.i64_in _ (by omega)
    have HO := Lib.hid o
    have HE := Lib.hid Er
    by_cases hlt : k < n
    case neg =>
      obtain rfl : k = n := by omega
      rw [List.take_of_length_le (by omega)] at o
      obtain ⟨ao, cap, rfl, hcap, hsee, _⟩ := o.open
      have hl : (xs.map hexB).length = k := by rw [List.length_map, hlen]
      rw [hl] at hcap hsee ⊢
      have hj := (join_any ao k cap (xs.map hexB) ⟨#[58]⟩ wr hsee hcap (by omega) (by
        rw [hexB_data]
        have := Pl.hexJ_len (xs.map Int.toNat)
        unfold Pl.hexJ at this
        show (Lib.join _ [58]).length ≤ _
        rw [List.length_map] at this
        omega))
      rw [hexB_data] at hj
      have hj : Calls Tryz.prog 32 #[.slice ao k cap, .string ⟨#[58]⟩] wr fun e w' => e = .returned (.string ⟨(Pl.hexJ (xs.map Int.toNat)).toArray⟩) ∧ Ext wr w' := hj
      have HJ := Lib.hid hj
      clear hj
      clear o Er hsee hcap
      go_wp2_with fail
      refine HJ.out.mono ?_
      rintro e W2 ⟨rfl, E2⟩
      go_wp2_with fail
      go_returns
      exact ⟨rfl, HE.out.trans E2⟩
    have hx : 0 ≤ xs.getD k 0 ∧ xs.getD k 0 ≤ 65535 := by
      rw [List.getD_eq_getElem?_getD, List.getElem?_eq_getElem (by omega)]
      exact HW.out _ (List.getElem_mem _)
    obtain ⟨b, off, rfl, hb, hc⟩ := (HI.out.ext Er).at (by omega)
    have hck := hc k hlt
    obtain ⟨u, hu⟩ : ∃ u : Nat, xs.getD k 0 = (u : Int) := ⟨(xs.getD k 0).toNat, by omega⟩
    rw [hu] at hck
    have HF := Lib.hid (fmt16 u (by omega) wr (HT.out.ext Er).db)
    have hub : hexB (xs.getD k 0) = ⟨(Pl.hexW u).toArray⟩ := by unfold hexB; rw [hu]; rfl
    have HU := Lib.hid hub
    have hlt' : (k : Int) < (n : Int) := by omega
    clear hc o Er hub hu hx
    go_wp2_with fail
    refine HF.out.mono ?_
    rintro e W2 ⟨rfl, E2⟩
    go_wp2_with (at_builtin; refine Halt.out ?_)
    refine Halt.mk ?_
    have hz2 := E2.size
    have hz1 := HE.out.size
    refine appStr rfl _ _ rfl w.heap.size _ ((xs.take k).map hexB) rfl ((HO.out.ext E2).ext ((Ext.refl W2).alloc _)) _ 1 1 [hexB (xs.getD k 0)] rfl (by rw [HU.out]; exact (Blk.new W2 _ _).str1) (by simp; omega) (by simp; omega) ?_
    intro v3 W3 o3 _ b3
    have HO3 := Lib.hid o3
    have HB3 := Lib.hid b3
    clear o3 b3
    go_wp2_with fail
    refine ⟨⟨k + 1, by omega, rfl, ?_, ?_⟩, by simp [intOf]; omega⟩
    · have := HO3.out
      rw [take_snoc xs k (by omega), List.map_append]
      exact this
    · exact Below.trans ((HE.out.trans E2).alloc _) HB3.out
end Go.Proofs.YtonjifkjammopaaGreatDoor
