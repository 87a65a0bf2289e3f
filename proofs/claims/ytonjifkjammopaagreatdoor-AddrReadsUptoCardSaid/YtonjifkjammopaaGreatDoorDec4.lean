/- Fours as texts: strconv.Itoa and Atoi of a byte's number; addr.Print4. Conditions: as each lemma states them. -/
import Derived.Test.YtonjifkjammopaaGreatDoorParse
import Derived.Test.YtonjifkjammopaaGreatDoorBits
import Derived.Lib.ItoaNum
namespace Go.Proofs.YtonjifkjammopaaGreatDoor
open Go.Shelf Go.RowKit
/-- The digits of a number below 1000. -/
def dec3 (u : Nat) : List UInt8 := if u < 10 then [UInt8.ofNat (48 + u)] else if u < 100 then [UInt8.ofNat (48 + u / 10), UInt8.ofNat (48 + u % 10)] else [UInt8.ofNat (48 + u / 100), UInt8.ofNat (48 + u / 10 % 10), UInt8.ofNat (48 + u % 10)]
theorem dec_one (u : Nat) (h : u < 10) : Lib.decDigits u = [UInt8.ofNat (48 + u)] := by rw [Lib.decDigits, dif_pos h]
theorem dec_more (u : Nat) (h : ¬ u < 10) : Lib.decDigits u = Lib.decDigits (u / 10) ++ [UInt8.ofNat (48 + u % 10)] := by rw [Lib.decDigits, dif_neg h]
theorem dec3_is (u : Nat) (h : u < 1000) : Lib.decDigits u = dec3 u := by
  unfold dec3
  by_cases h1 : u < 10
  · rw [if_pos h1, dec_one u h1]
  · rw [if_neg h1]
    by_cases h2 : u < 100
    · rw [if_pos h2, dec_more u h1, dec_one _ (by omega)]
      rfl
    · rw [if_neg h2, dec_more u h1, dec_more _ (by omega), dec_one _ (by omega), Nat.div_div_eq_div_mul]
      rfl
theorem itoa3 (u : Nat) (h : u < 1000) : Lib.itoa (u : Int) = dec3 u := by
  unfold Lib.itoa
  rw [if_neg (by omega), Int.toNat_natCast, dec3_is u h]
theorem atoi3f : ∀ u : Fin 256, Lib.atoi (dec3 u.val) = some (u.val : Int) := by decide +kernel
theorem dec3_dotf : ∀ u : Fin 256, ∀ c ∈ dec3 u.val, c ≠ 46 := by decide +kernel
theorem dec3_len (u : Nat) : 1 ≤ (dec3 u).length ∧ (dec3 u).length ≤ 3 := by
  unfold dec3
  repeat' split
  all_goals simp
theorem ext_grow (w : World) (k : Nat) (os : Array Obj) : Ext w (Sort.grow (w.drewN k) os) :=
  ⟨rfl, rfl, rfl, by simp [Sort.grow], fun i hi => by
    show (w.heap ++ os)[i]? = _
    rw [Array.getElem?_append_left hi]⟩
theorem itoa_u8 (u : Nat) (hu : u < 256) (w : World) (T : Tabs w) : Calls Tryz.prog 31 #[.int .i64 (u : Int)] w fun e w' => e = .returned (.string (txtB (dec3 u))) ∧ Ext w w' := by
  refine (Any.strconv_Itoa laysItoa (u : Int) (by omega) (by omega) w T.pow).mono ?_
  rintro e w' ⟨rfl, k, os, rfl⟩
  exact ⟨by rw [itoa3 u (by omega)]; rfl, ext_grow w k os⟩
theorem atoi_u8 (u : Nat) (hu : u < 256) (w : World) : Calls Tryz.prog 35 #[.string (txtB (dec3 u))] w fun e w' => e = .returned (.tuple #[.int .i64 (u : Int), .nilIface]) ∧ Ext w w' := by
  refine (Any.strconv_Atoi laysAtoi (txtB (dec3 u)) (u : Int) (by rw [txtB_size]; have := dec3_len u; omega) (atoi3f ⟨u, hu⟩) w).mono ?_
  rintro e w' ⟨rfl, t, rfl⟩
  exact ⟨rfl, Lib.bytesWorld_below _ _ _⟩
/-- A byte of a four. -/
def oct (n k : Nat) : Nat := n / 256 ^ (3 - k) % 256
theorem oct_lt (n k : Nat) : oct n k < 256 := Nat.mod_lt _ (by decide)
def octs (n k : Nat) : List ByteArray := (List.range 4).map fun j => if j < k then txtB (dec3 (oct n j)) else ByteArray.empty
def octC (n k : Nat) : Array Value := ((octs n k).map Value.string).toArray
theorem octC_put (n k : Nat) (hk : k < 4) : (octC n k).setIfInBounds k (.string (txtB (dec3 (oct n k)))) = octC n (k + 1) := by
  have h : k = 0 ∨ k = 1 ∨ k = 2 ∨ k = 3 := by omega
  rcases h with rfl | rfl | rfl | rfl <;> rfl
def z4s : Array Value := #[.string ByteArray.empty, .string ByteArray.empty, .string ByteArray.empty, .string ByteArray.empty]
/-- A four's text. -/
def text4 (n : Nat) : List UInt8 := Lib.join [dec3 (oct n 0), dec3 (oct n 1), dec3 (oct n 2), dec3 (oct n 3)] [46]
theorem text4_len (n : Nat) : (text4 n).length ≤ 15 := by
  unfold text4
  rw [Lib.join_cons]
  have h0 := dec3_len (oct n 0)
  have h1 := dec3_len (oct n 1)
  have h2 := dec3_len (oct n 2)
  have h3 := dec3_len (oct n 3)
  simp [Lib.joinTail]
  omega
theorem Tryz.arr4 : Tryz.prog.underlying 63 = some (.array (Tryz.prog.arrayLen 63) (Tryz.prog.elem 63)) := by kernel_rfl
theorem strs_whole (w : World) (g : Nat) : (Instr.sliceAt 63 (.pointer (some ⟨g, 0, none⟩)) none none none).run Tryz.prog w = .ok (.slice (some ⟨g, 0, none⟩) 4 4) w := by
  rw [run_sliceAt_array_all w 63 ⟨g, 0, none⟩ Tryz.arr4, show Tryz.prog.elem 63 = 9 by kernel_rfl, show Tryz.prog.arrayLen 63 = 4 by kernel_rfl, show (sizeOf 9).run Tryz.prog w = .ok 1 w by kernel_rfl]
  rfl
theorem is4_any (n : Int) (w : World) : Calls Tryz.prog 30 #[.int .i64 n] w fun e w' => e = .returned (.bool (decide (0 ≤ n ∧ n < 4294967296))) ∧ w' = w := by
  by_cases h0 : 0 ≤ n
  · go_enter Tryz.func30, Tryz.ntmps30
    go_wp2_with fail
    go_returns
    exact ⟨by simp [h0], rfl⟩
  · go_enter Tryz.func30, Tryz.ntmps30
    go_wp2_with fail
    go_returns
    exact ⟨by simp; omega, rfl⟩
set_option maxRecDepth 100000 in
theorem print4_no (n : Int) (w : World) (h : ¬ (0 ≤ n ∧ n < 4294967296)) : Calls Tryz.prog 17 #[.int .i64 n] w fun e w' => e = .returned (.tuple #[.string ⟨#[]⟩, errv 1]) ∧ Ext w w' := by
  have HI := Lib.hid (fun W => is4_any n W)
  have HD := Lib.hid (decide_eq_false h)
  unfold errv
  go_enter Tryz.func17, Tryz.ntmps17
  go_wp2_with fail
  refine (HI.out _).mono ?_
  rintro e w' ⟨rfl, rfl⟩
  rw [HD.out]
  go_wp2_with fail
  go_returns
  exact ⟨rfl, Ext.refl _⟩
set_option maxRecDepth 100000 in
set_option maxHeartbeats 1000000 in
theorem print4_yes (n : Nat) (w : World) (T : Tabs w) (h : n < 4294967296) : Calls Tryz.prog 17 #[.int .i64 (n : Int)] w fun e w' => e = .returned (.tuple #[.string (txtB (text4 n)), .nilIface]) ∧ Ext w w' := by
  have HI := Lib.hid (fun W => is4_any (n : Int) W)
  have HD := Lib.hid (decide_eq_true (show 0 ≤ (n : Int) ∧ (n : Int) < 4294967296 by omega))
  have HT := Lib.hid T
  have K0 : Blk (w.alloc (.cells z4s 63)) w.heap.size 63 (octC n 0) := Blk.new w 63 z4s
  have E0 := (Ext.refl w).alloc (.cells z4s 63)
  clear T
  go_enter Tryz.func17, Tryz.ntmps17
  go_wp2_with fail
  refine (HI.out _).mono ?_
  rintro e w' ⟨rfl, rfl⟩
  rw [HD.out]
  go_upto_region 4 with (fail)
  refine at_worldE (fun W => Ext w' W ∧ Blk W w'.heap.size 63 (octC n 0)) ⟨E0, K0⟩ ?_
  clear E0 K0
  rintro W1 ⟨E1, K1⟩
  go_wp2_with fail
  go_loopw [10] (fun vi wr => ∃ k : Nat, k ≤ 4 ∧ vi = .int .i64 (k : Int) ∧ Ext w' wr ∧ Blk wr w'.heap.size 63 (octC n k)) (fun vi _ => 4 - (intOf vi).toNat)
  case atStart => exact ⟨0, by omega, rfl, E1, K1⟩
  case round =>
    clear E1 K1
    obtain ⟨k, hk, rfl, Er, Kr⟩ := hrel
    have HE := Lib.hid Er
    have HK := Lib.hid Kr
    by_cases hlt : k < 4
    case neg =>
      obtain rfl : k = 4 := by omega
      have hsl := fun W => strs_whole W w'.heap.size
      have hsee : KStr.See wr (some ⟨w'.heap.size, 0, none⟩) 4 (octs n 4) := Kin.See.blk Kr rfl
      have HJ := Lib.hid (join_any (some ⟨w'.heap.size, 0, none⟩) 4 4 (octs n 4) ⟨#[46]⟩ wr hsee (by omega) (by omega) (by
        show (text4 n).length ≤ _
        have := text4_len n
        omega))
      clear Er Kr hsee
      go_wp2_with fail
      refine HJ.out.mono ?_
      rintro e W2 ⟨rfl, E2⟩
      have hj : (⟨(Lib.join ((octs n 4).map (·.data.toList)) (⟨#[46]⟩ : ByteArray).data.toList).toArray⟩ : ByteArray) = txtB (text4 n) := rfl
      rw [hj]
      obtain ⟨tt, htt⟩ : ∃ tt, tt = txtB (text4 n) := ⟨_, rfl⟩
      rw [← htt]
      have HTT := Lib.hid htt
      clear htt
      go_wp2_with fail
      go_returns
      exact ⟨by rw [← HTT.out]; rfl, HE.out.trans E2⟩
    have HI8 := Lib.hid (itoa_u8 (oct n k) (oct_lt n k) wr (HT.out.ext Er))
    have hput := octC_put n k hlt
    clear Er
    have hkk : k = 0 ∨ k = 1 ∨ k = 2 ∨ k = 3 := by omega
    rcases hkk with rfl | rfl | rfl | rfl
    · have ea := and255 (x := (n : Int) / 16777216) (by omega) (by omega)
      have eo : (n : Int) / 16777216 % 256 = ((oct n 0 : Nat) : Int) := by
        show (n : Int) / 16777216 % 256 = ((n / 16777216 % 256 : Nat) : Int)
        omega
      rw [eo] at ea
      clear eo
      generalize oct n 0 = o at *
      go_wp2_with fail
      refine HI8.out.mono ?_
      rintro e W2 ⟨rfl, E2⟩
      have K2 := HK.out.ext E2
      have ck : W2.cell? ⟨w'.heap.size, 0, none⟩ = some (.string ByteArray.empty) := (K2.cells 0).trans rfl
      have fk := K2.free 0
      have K3 := K2.put 0 (.string (txtB (dec3 o)))
      rw [hput] at K3
      have HK3 := Lib.hid K3
      have HE3 := Lib.hid ((HE.out.trans E2).set (p := ⟨w'.heap.size, 0, none⟩) (Nat.le_refl _) (.string (txtB (dec3 o))))
      clear K2 K3 E2 Kr
      generalize txtB (dec3 o) = T at *
      go_wp2_with fail
      exact ⟨⟨0 + 1, by omega, rfl, HE3.out, HK3.out⟩, by simp [intOf]⟩
    · have ea := and255 (x := (n : Int) / 65536) (by omega) (by omega)
      have eo : (n : Int) / 65536 % 256 = ((oct n 1 : Nat) : Int) := by
        show (n : Int) / 65536 % 256 = ((n / 65536 % 256 : Nat) : Int)
        omega
      rw [eo] at ea
      clear eo
      generalize oct n 1 = o at *
      go_wp2_with fail
      refine HI8.out.mono ?_
      rintro e W2 ⟨rfl, E2⟩
      have K2 := HK.out.ext E2
      have ck : W2.cell? ⟨w'.heap.size, 1, none⟩ = some (.string ByteArray.empty) := (K2.cells 1).trans rfl
      have fk := K2.free 1
      have K3 := K2.put 1 (.string (txtB (dec3 o)))
      rw [hput] at K3
      have HK3 := Lib.hid K3
      have HE3 := Lib.hid ((HE.out.trans E2).set (p := ⟨w'.heap.size, 1, none⟩) (Nat.le_refl _) (.string (txtB (dec3 o))))
      clear K2 K3 E2 Kr
      generalize txtB (dec3 o) = T at *
      go_wp2_with fail
      exact ⟨⟨1 + 1, by omega, rfl, HE3.out, HK3.out⟩, by simp [intOf]⟩
    · have ea := and255 (x := (n : Int) / 256) (by omega) (by omega)
      have eo : (n : Int) / 256 % 256 = ((oct n 2 : Nat) : Int) := by
        show (n : Int) / 256 % 256 = ((n / 256 % 256 : Nat) : Int)
        omega
      rw [eo] at ea
      clear eo
      generalize oct n 2 = o at *
      go_wp2_with fail
      refine HI8.out.mono ?_
      rintro e W2 ⟨rfl, E2⟩
      have K2 := HK.out.ext E2
      have ck : W2.cell? ⟨w'.heap.size, 2, none⟩ = some (.string ByteArray.empty) := (K2.cells 2).trans rfl
      have fk := K2.free 2
      have K3 := K2.put 2 (.string (txtB (dec3 o)))
      rw [hput] at K3
      have HK3 := Lib.hid K3
      have HE3 := Lib.hid ((HE.out.trans E2).set (p := ⟨w'.heap.size, 2, none⟩) (Nat.le_refl _) (.string (txtB (dec3 o))))
      clear K2 K3 E2 Kr
      generalize txtB (dec3 o) = T at *
      go_wp2_with fail
      exact ⟨⟨2 + 1, by omega, rfl, HE3.out, HK3.out⟩, by simp [intOf]⟩
    · have ea := and255 (x := (n : Int) / 1) (by omega) (by omega)
      have eo : (n : Int) / 1 % 256 = ((oct n 3 : Nat) : Int) := by
        show (n : Int) / 1 % 256 = ((n / 1 % 256 : Nat) : Int)
        omega
      rw [eo, Int.ediv_one] at ea
      clear eo
      generalize oct n 3 = o at *
      go_wp2_with fail
      refine HI8.out.mono ?_
      rintro e W2 ⟨rfl, E2⟩
      have K2 := HK.out.ext E2
      have ck : W2.cell? ⟨w'.heap.size, 3, none⟩ = some (.string ByteArray.empty) := (K2.cells 3).trans rfl
      have fk := K2.free 3
      have K3 := K2.put 3 (.string (txtB (dec3 o)))
      rw [hput] at K3
      have HK3 := Lib.hid K3
      have HE3 := Lib.hid ((HE.out.trans E2).set (p := ⟨w'.heap.size, 3, none⟩) (Nat.le_refl _) (.string (txtB (dec3 o))))
      clear K2 K3 E2 Kr
      generalize txtB (dec3 o) = T at *
      go_wp2_with fail
      exact ⟨⟨3 + 1, by omega, rfl, HE3.out, HK3.out⟩, by simp [intOf]⟩
end Go.Proofs.YtonjifkjammopaaGreatDoor
