/- strconv.ParseUint at base 16 and 16 bits, of any text. Conditions: as each lemma states them. -/
import Derived.Test.YtonjifkjammopaaGreatDoorTxt
import Derived.Test.YtonjifkjammopaaGreatDoorSixS
import Derived.Lib.Strings
import Derived.Lib.Walk
import Derived.Lib.ConvBytes
import Derived.Lib.ParseIntBMem
import Derived.Lib.AtoiErrMem
import Derived.Lib.Hide
import Derived.Laws.Strings3
import Derived.Laws.Closers25
import Derived.Laws.Closers25b
import Derived.BigCall
import Derived.BigGuard
namespace Go.Proofs.YtonjifkjammopaaGreatDoor
open Go.RowKit
theorem lower_any (c : Int) (w : World) : Calls Tryz.prog 75 #[.int .u8 c] w fun e w' => e = .returned (.int .u8 (bits .or .u8 c 32)) ∧ w' = w := by
  go_enter Tryz.func75, Tryz.ntmps75
  go_wp2
  go_returns
  exact ⟨rfl, rfl⟩
theorem or32f : ∀ c : Fin 256, bits .or .u8 (c.val : Int) 32 = (((UInt8.ofNat c.val) ||| 32).toNat : Int) := by decide +kernel
theorem or32 (c : UInt8) : bits .or .u8 (c.toNat : Int) 32 = ((c ||| 32).toNat : Int) := by
  have := or32f ⟨c.toNat, c.toNat_lt⟩
  rwa [show UInt8.ofNat (c.toNat) = c by simp] at this
theorem or_lowf : ∀ c : Fin 256, c.val < 48 → ((UInt8.ofNat c.val) ||| 32).toNat < 64 := by decide +kernel
theorem or_low (c : UInt8) (h : c.toNat < 48) : (c ||| 32).toNat < 64 := by
  have := or_lowf ⟨c.toNat, c.toNat_lt⟩ h
  rwa [show UInt8.ofNat (c.toNat) = c by simp] at this
/-- What a word's parse hands back. -/
def PU (l : List UInt8) (e : Ending) : Prop :=
  (∃ n : Nat, (l ≠ [] ∧ Pl.hexP 0 l = some n) ∧ e = .returned (.tuple #[.int .u64 n, .nilIface])) ∨
  (∃ (n x : Int), (l = [] ∨ Pl.hexP 0 l = none) ∧ (x = 1 ∨ x = 2) ∧ e = .returned (.tuple #[.int .u64 n, .iface 97 (.int .i64 x)]))
theorem pu_err {l : List UInt8} {n x : Int} (h : l = [] ∨ Pl.hexP 0 l = none) (hx : x = 1 ∨ x = 2) : PU l (.returned (.tuple #[.int .u64 n, .iface 97 (.int .i64 x)])) := .inr ⟨n, x, h, hx, rfl⟩
set_option maxRecDepth 100000 in
set_option maxHeartbeats 8000000 in
theorem iparse_any (t : ByteArray) (hmax : t.size ≤ 9223372036854775806) (w : World) :
    Calls Tryz.prog 53 #[.string t, .int .i64 16, .int .i64 16] w fun e w' => PU t.data.toList e ∧ Ext w w' := by
  by_cases hne : t.size = 0
  · have ht : t = ⟨#[]⟩ := by
      obtain ⟨⟨l⟩⟩ := t
      cases l with
      | nil => rfl
      | cons _ _ => simp [ByteArray.size] at hne
    subst ht
    go_enter Tryz.func53, Tryz.ntmps53
    go_wp2
    go_returns
    exact ⟨pu_err (.inl rfl) (.inr rfl), Ext.refl _⟩
  have hemp : t.toList.isEmpty = false := by
    rw [← decide_eq_emptyBytes]
    exact decide_eq_false (fun h => hne (by rw [h]; rfl))
  have hcv := Lib.run_convert_string_bytes (P := Tryz.prog) w 9 27 5 t (u := .string) Tryz.underlying9 Tryz.underlying27 Tryz.underlying5
  have hB : ∀ j, j < t.size → (Lib.bytesWorld w 5 t).cell? ⟨w.heap.size, j, none⟩ = some (.int .u8 (t.data.toList.getD j 0).toNat) := fun j hj => Lib.bytesWorld_cell w 5 t j hj
  have hE : Ext w (Lib.bytesWorld w 5 t) := Lib.bytesWorld_below _ _ _
  obtain ⟨W1, hW1⟩ : ∃ W1, W1 = Lib.bytesWorld w 5 t := ⟨_, rfl⟩
  rw [← hW1] at hcv hB hE
  clear hW1
  obtain ⟨bs, hL⟩ : ∃ bs, bs = t.data.toList := ⟨_, rfl⟩
  have hLn : bs.length = t.size := by rw [hL, Lib.size_eq]
  have hbne : bs ≠ [] := fun h => hne (by rw [← hLn, h]; rfl)
  rw [← hL] at hB ⊢
  clear hL
  have hmv : IntKind.u64.wrap (IntKind.u64.wrap 65536 - 1) = 65535 := by
    rw [IntKind.wrap_u64, IntKind.wrap_u64]
    decide
  have HE := Lib.hid hE
  clear hE
  go_enter Tryz.func53, Tryz.ntmps53
  go_wp2
  go_loop [12, 13, 101] (fun vu vn vi => ∃ (k acc : Nat) (a : Int), vu = .bool false ∧ vn = .int .u64 a ∧ vi = .int .i64 k ∧ k ≤ t.size ∧ Hid (a = (acc : Int) ∧ acc ≤ 65535 ∧ Pl.hexP 0 bs = Pl.hexP acc (bs.drop k)))
    (fun _ _ vi => t.size - (intOf vi).toNat)
  case atStart => exact ⟨0, 0, 0, rfl, rfl, rfl, by omega, rfl, by omega, rfl⟩
  case round =>
    obtain ⟨k, acc, a, rfl, rfl, rfl, hk, hh⟩ := hrel
    obtain ⟨ha, hacc, hdec⟩ := hh.out
    clear hh
    have a0 : 0 ≤ a := by omega
    have a1 : a ≤ 65535 := by omega
    by_cases hkn : k < t.size
    case neg =>
      have hkk : k = t.size := by omega
      subst hkk
      rw [List.drop_eq_nil_of_le (by omega)] at hdec
      have hdec : Pl.hexP 0 bs = some acc := hdec
      subst ha
      clear hacc a0 a1
      go_wp2
      go_returns
      exact ⟨.inl ⟨acc, ⟨hbne, hdec⟩, rfl⟩, HE.out⟩
    have hc := hB k hkn
    have hdrop : bs.drop k = bs[k]'(by omega) :: bs.drop (k + 1) := List.drop_eq_getElem_cons (by omega)
    have hget : bs.getD k 0 = bs[k]'(by omega) := by simp [List.getD, List.getElem?_eq_getElem (show k < bs.length by omega)]
    rw [hdrop] at hdec
    rw [hget] at hc
    generalize bs[k]'(by omega) = c at hc hdec
    have hc256 : c.toNat < 256 := c.toNat_lt
    clear hB hdrop hget
    by_cases hdig : 48 ≤ c.toNat ∧ c.toNat ≤ 57
    case pos =>
      have hd : Pl.digH c = c.toNat - 48 := by unfold Pl.digH; rw [if_pos hdig]
      obtain ⟨hd0, hd1⟩ := hdig
      by_cases hov : acc * 16 + (c.toNat - 48) ≤ 65535
      case pos =>
        have hF : Pl.hexP acc (c :: bs.drop (k + 1)) = Pl.hexP (acc * 16 + (c.toNat - 48)) (bs.drop (k + 1)) := by
          rw [Pl.hexP, hd, if_pos ⟨by omega, hov⟩]
        have HN : Hid (a * 16 + ((c.toNat : Int) - 48) = ((acc * 16 + (c.toNat - 48) : Nat) : Int) ∧ acc * 16 + (c.toNat - 48) ≤ 65535 ∧ Pl.hexP 0 bs = Pl.hexP (acc * 16 + (c.toNat - 48)) (bs.drop (k + 1))) := Lib.hid ⟨by omega, by omega, hdec.trans hF⟩
        have iov : a * 16 + ((c.toNat : Int) - 48) ≤ 65535 := by omega
        clear hacc hF hov hdec ha hd
        go_wp2
        refine ⟨⟨k + 1, acc * 16 + (c.toNat - 48), a * 16 + ((c.toNat : Int) - 48), rfl, (by first | rfl | (congr 1; omega)), (by first | rfl | (congr 1; omega)), by omega, HN⟩, by simp [intOf]; omega⟩
      case neg =>
        have hF : Pl.hexP acc (c :: bs.drop (k + 1)) = none := by
          rw [Pl.hexP, hd, if_neg (by omega)]
        have hdec := Lib.hid (hdec.trans hF)
        have iov : 65535 < a * 16 + ((c.toNat : Int) - 48) := by omega
        clear hacc hF hov ha hd
        go_wp2
        go_returns
        exact ⟨pu_err (.inr hdec.out) (.inl rfl), HE.out⟩
    have ho := or32 c
    have ho256 : (c ||| 32).toNat < 256 := (c ||| 32).toNat_lt
    obtain ⟨l, hl⟩ : ∃ l, l = (c ||| 32).toNat := ⟨_, rfl⟩
    rw [← hl] at ho ho256
    by_cases h95 : c.toNat = 95
    case pos =>
      have hl127 : l = 127 := by
        rw [hl]
        have hc95 : c = 95 := UInt8.toNat_inj.1 h95
        rw [hc95]
        decide
      have hF : Pl.hexP acc (c :: bs.drop (k + 1)) = none := by
        rw [Pl.hexP, if_neg]
        unfold Pl.digH
        rw [if_neg hdig, ← hl, if_neg (by omega)]
        omega
      have hdec := Lib.hid (hdec.trans hF)
      have HO : Hid (bits .or .u8 95 32 = 127) := Lib.hid (by decide +kernel)
      rw [h95] at hc
      have hc : W1.cell? ⟨w.heap.size, k, none⟩ = some (.int .u8 95) := hc
      clear hacc hF ha hl h95 hdig ho hc256
      go_wp2_with fail
      refine (lower_any _ _).mono ?_
      rintro e w' ⟨rfl, rfl⟩
      rw [HO.out]
      go_wp2_with fail
      refine (lower_any _ _).mono ?_
      rintro e w' ⟨rfl, rfl⟩
      rw [HO.out]
      go_wp2_with fail
      go_returns
      exact ⟨pu_err (.inr hdec.out) (.inr rfl), HE.out⟩
    have h95' : ¬ (c.toNat : Int) = 95 := by omega
    have HO := Lib.hid ho
    clear ho
    by_cases h48 : c.toNat < 48
    case pos =>
      have hF : Pl.hexP acc (c :: bs.drop (k + 1)) = none := by
        rw [Pl.hexP, if_neg]
        unfold Pl.digH
        rw [if_neg hdig, ← hl, if_neg (by have := or_low c h48; omega)]
        omega
      have hdec := Lib.hid (hdec.trans hF)
      have h48' : ¬ (48 : Int) ≤ (c.toNat : Int) := by omega
      have hl0 : ¬ (97 : Int) ≤ (l : Int) := by have := or_low c h48; omega
      clear hacc hF ha hl hdig h48
      go_wp2_with fail
      refine (lower_any _ _).mono ?_
      rintro e w' ⟨rfl, rfl⟩
      rw [HO.out]
      go_wp2_with fail
      go_returns
      exact ⟨pu_err (.inr hdec.out) (.inr rfl), HE.out⟩
    have h48' : (48 : Int) ≤ (c.toNat : Int) := by omega
    have h57' : ¬ (c.toNat : Int) ≤ 57 := by omega
    by_cases hlo : 97 ≤ l
    case neg =>
      have hF : Pl.hexP acc (c :: bs.drop (k + 1)) = none := by
        rw [Pl.hexP, if_neg]
        unfold Pl.digH
        rw [if_neg hdig, ← hl, if_neg (by omega)]
        omega
      have hdec := Lib.hid (hdec.trans hF)
      have hl0 : ¬ (97 : Int) ≤ (l : Int) := by omega
      clear hacc hF ha hl
      go_wp2_with fail
      refine (lower_any _ _).mono ?_
      rintro e w' ⟨rfl, rfl⟩
      rw [HO.out]
      go_wp2_with fail
      go_returns
      exact ⟨pu_err (.inr hdec.out) (.inr rfl), HE.out⟩
    by_cases hlh : l ≤ 122
    case neg =>
      have hF : Pl.hexP acc (c :: bs.drop (k + 1)) = none := by
        rw [Pl.hexP, if_neg]
        unfold Pl.digH
        rw [if_neg hdig, ← hl, if_neg (by omega)]
        omega
      have hdec := Lib.hid (hdec.trans hF)
      have hl0 : (97 : Int) ≤ (l : Int) := by omega
      have hl1 : ¬ (l : Int) ≤ 122 := by omega
      clear hacc hF ha hl
      go_wp2_with fail
      refine (lower_any _ _).mono ?_
      rintro e w' ⟨rfl, rfl⟩
      rw [HO.out]
      go_wp2_with fail
      refine (lower_any _ _).mono ?_
      rintro e w' ⟨rfl, rfl⟩
      rw [HO.out]
      go_wp2_with fail
      go_returns
      exact ⟨pu_err (.inr hdec.out) (.inr rfl), HE.out⟩
    have hd : Pl.digH c = l - 97 + 10 := by
      unfold Pl.digH
      rw [if_neg hdig, ← hl, if_pos ⟨hlo, hlh⟩]
    have hl0 : (97 : Int) ≤ (l : Int) := by omega
    have hl1 : (l : Int) ≤ 122 := by omega
    have hw1 : IntKind.u8.wrap ((l : Int) - 97) = (l : Int) - 97 := by rw [IntKind.wrap_u8]; omega
    have hw2 : IntKind.u8.wrap ((l : Int) - 97 + 10) = (l : Int) - 97 + 10 := by rw [IntKind.wrap_u8]; omega
    clear hl hdig h48
    by_cases h16 : l ≤ 102
    case neg =>
      have hF : Pl.hexP acc (c :: bs.drop (k + 1)) = none := by rw [Pl.hexP, hd, if_neg (by omega)]
      have hdec := Lib.hid (hdec.trans hF)
      have h16' : (16 : Int) ≤ (l : Int) - 97 + 10 := by omega
      clear hacc hF ha hd
      go_wp2_with fail
      refine (lower_any _ _).mono ?_
      rintro e w' ⟨rfl, rfl⟩
      rw [HO.out]
      go_wp2_with fail
      refine (lower_any _ _).mono ?_
      rintro e w' ⟨rfl, rfl⟩
      rw [HO.out]
      go_wp2_with fail
      refine (lower_any _ _).mono ?_
      rintro e w' ⟨rfl, rfl⟩
      rw [HO.out]
      go_wp2_with fail
      go_returns
      exact ⟨pu_err (.inr hdec.out) (.inr rfl), HE.out⟩
    have h16' : ¬ (16 : Int) ≤ (l : Int) - 97 + 10 := by omega
    by_cases hov : acc * 16 + (l - 97 + 10) ≤ 65535
    case pos =>
      have hF : Pl.hexP acc (c :: bs.drop (k + 1)) = Pl.hexP (acc * 16 + (l - 97 + 10)) (bs.drop (k + 1)) := by
        rw [Pl.hexP, hd, if_pos ⟨by omega, hov⟩]
      have HN : Hid (a * 16 + ((l : Int) - 97 + 10) = ((acc * 16 + (l - 97 + 10) : Nat) : Int) ∧ acc * 16 + (l - 97 + 10) ≤ 65535 ∧ Pl.hexP 0 bs = Pl.hexP (acc * 16 + (l - 97 + 10)) (bs.drop (k + 1))) := Lib.hid ⟨by omega, by omega, hdec.trans hF⟩
      have iov : a * 16 + ((l : Int) - 97 + 10) ≤ 65535 := by omega
      clear hacc hF hov hdec ha hd
      go_wp2_with fail
      refine (lower_any _ _).mono ?_
      rintro e w' ⟨rfl, rfl⟩
      rw [HO.out]
      go_wp2_with fail
      refine (lower_any _ _).mono ?_
      rintro e w' ⟨rfl, rfl⟩
      rw [HO.out]
      go_wp2_with fail
      refine (lower_any _ _).mono ?_
      rintro e w' ⟨rfl, rfl⟩
      rw [HO.out]
      go_wp2_with fail
      refine ⟨⟨k + 1, acc * 16 + (l - 97 + 10), a * 16 + ((l : Int) - 97 + 10), rfl, (by first | rfl | (congr 1; omega)), (by first | rfl | (congr 1; omega)), by omega, HN⟩, by simp [intOf]; omega⟩
    case neg =>
      have hF : Pl.hexP acc (c :: bs.drop (k + 1)) = none := by rw [Pl.hexP, hd, if_neg (by omega)]
      have hdec := Lib.hid (hdec.trans hF)
      have iov : 65535 < a * 16 + ((l : Int) - 97 + 10) := by omega
      clear hacc hF hov ha hd
      go_wp2_with fail
      refine (lower_any _ _).mono ?_
      rintro e w' ⟨rfl, rfl⟩
      rw [HO.out]
      go_wp2_with fail
      refine (lower_any _ _).mono ?_
      rintro e w' ⟨rfl, rfl⟩
      rw [HO.out]
      go_wp2_with fail
      refine (lower_any _ _).mono ?_
      rintro e w' ⟨rfl, rfl⟩
      rw [HO.out]
      go_wp2_with fail
      go_returns
      exact ⟨pu_err (.inr hdec.out) (.inl rfl), HE.out⟩
end Go.Proofs.YtonjifkjammopaaGreatDoor
