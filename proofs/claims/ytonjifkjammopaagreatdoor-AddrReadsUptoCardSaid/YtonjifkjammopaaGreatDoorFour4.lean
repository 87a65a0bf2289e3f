/- addr.Parse4 of any text. Conditions: as each lemma states them. -/
import Derived.Test.YtonjifkjammopaaGreatDoorFours
import Derived.Deep.DeepCutAuto
namespace Go.Proofs.YtonjifkjammopaaGreatDoor
open Go.RowKit
def FG (t : List UInt8) (e : Ending) : Prop :=
  (∃ n : Nat, four t = some n ∧ e = .returned (.tuple #[.int .i64 (n : Int), .nilIface])) ∨ (four t = none ∧ e = .returned (.tuple #[.int .i64 0, errv 5]))
theorem fours_lt : ∀ (l : List (List UInt8)) (a n k : Nat), a < 256 ^ k → fours a l = some n → n < 256 ^ (k + l.length)
  | [], a, n, k, ha, h => by cases h; simpa using ha
  | w :: r, a, n, k, ha, h => by
    unfold fours at h
    cases hd : dec8 w with
    | none => rw [hd] at h; cases h
    | some u =>
      rw [hd] at h
      have hu := (dec8_some hd).1
      have := fours_lt r (a * 256 + u) n (k + 1) (by rw [Nat.pow_succ]; omega) h
      rw [List.length_cons, show k + (r.length + 1) = k + 1 + r.length by omega]
      exact this
set_option maxRecDepth 100000 in
set_option maxHeartbeats 2000000 in
theorem parse4_any (t : ByteArray) (w : World) (T : Tabs w) (ht : t.size ≤ 1048576) : Calls Tryz.prog 19 #[.string t] w fun e w' => FG t.data.toList e ∧ Ext w w' := by
  have hS := split_any t ⟨#[46]⟩ w T (by omega) (by decide)
  have hsz : ∀ x ∈ wordsB t ⟨#[46]⟩, x.size ≤ t.size := fun x hx => splitB_size _ _ _ x hx
  have h4 : four t.data.toList = if (wordsB t ⟨#[46]⟩).length = 4 then fours 0 ((wordsB t ⟨#[46]⟩).map (·.data.toList)) else none := by
    unfold four
    have := wordsB_data t ⟨#[46]⟩
    rw [show (⟨#[46]⟩ : ByteArray).data.toList = [46] from rfl] at this
    rw [← this, List.length_map]
  have hlen : (wordsB t ⟨#[46]⟩).length ≤ t.size + 1 := by
    rw [wordsB_len t ⟨#[46]⟩ (by decide)]
    have := Lib.countB_le ⟨#[46]⟩ (by decide) t.size t (Nat.le_refl _)
    omega
  generalize wordsB t ⟨#[46]⟩ = ws at *
  generalize hn : ws.length = n at *
  have HS := Lib.hid hS
  have HZ := Lib.hid hsz
  have H4 := Lib.hid h4
  have HT := Lib.hid T
  clear hS hsz h4 T
  go_enter Tryz.func19, Tryz.ntmps19
  go_wp2_with fail
  refine HS.out.mono ?_
  rintro e W1 ⟨rfl, hw, E1⟩
  have HW := Lib.hid hw
  have HE1 := Lib.hid E1
  clear hw E1 HS
  by_cases hn4 : n = 4
  case neg =>
    have hn4' : ¬ (n : Int) = 4 := by omega
    have h0 := H4.out
    rw [if_neg hn4] at h0
    have H0 := Lib.hid h0
    clear h0
    go_wp2_with fail
    go_returns
    exact ⟨.inr ⟨H0.out, rfl⟩, HE1.out⟩
  subst hn4
  have h0 := H4.out
  rw [if_pos rfl] at h0
  have H0 := Lib.hid h0
  clear h0
  go_wp2_with fail
  go_loopw [5, 18] (fun va vi wr => ∃ (k a : Nat), k ≤ 4 ∧ Hid (fours 0 (ws.map (·.data.toList)) = fours a ((ws.map (·.data.toList)).drop k) ∧ a < 256 ^ k) ∧ a < 4294967296 ∧ va = .int .i64 (a : Int) ∧ vi = .int .i64 (k : Int) ∧ Ext W1 wr) (fun _ vi _ => 4 - (intOf vi).toNat)
  case atStart => exact ⟨0, 0, by omega, Lib.hid ⟨rfl, by decide⟩, by omega, rfl, rfl, Ext.refl _⟩
  case round =>
    obtain ⟨k, a, hk, HA, ha2, rfl, rfl, Er⟩ := hrel
    have HE := Lib.hid Er
    have wk : IntKind.i64.wrap ((k : Int) + 1) = (k : Int) + 1 := IntWalk.i64_in _ (by omega)
    by_cases hlt : k < 4
    case neg =>
      obtain rfl : k = 4 := by omega
      have hfin : four t.data.toList = some a := by
        rw [H0.out, HA.out.1, List.drop_of_length_le (by rw [List.length_map]; omega)]
        rfl
      have HF := Lib.hid hfin
      clear Er hfin
      go_wp2_with fail
      go_returns
      exact ⟨.inl ⟨a, HF.out, rfl⟩, HE1.out.trans HE.out⟩
    have hlt' : (k : Int) < 4 := by omega
    obtain ⟨x, hx⟩ : ∃ x, ws[k]? = some x := ⟨_, List.getElem?_eq_getElem (by omega)⟩
    have hc := (HW.out.ext Er).strs (by omega) k x hx
    rw [Nat.zero_add] at hc
    have hdrop : (ws.map (·.data.toList)).drop k = x.data.toList :: (ws.map (·.data.toList)).drop (k + 1) := by
      have hlt2 : k < (ws.map (·.data.toList)).length := by rw [List.length_map]; omega
      rw [List.drop_eq_getElem_cons hlt2]
      congr 1
      rw [List.getElem_map]
      rw [List.getElem?_eq_getElem (by omega)] at hx
      rw [Option.some.inj hx]
    have hxz := HZ.out x (List.mem_of_getElem? hx)
    have HIT := Lib.hid (fun (u : Nat) (hu : u < 256) (W : World) (TW : Tabs W) => itoa_u8 u hu W TW)
    cases hd : dec8 x.data.toList with
    | some u =>
      obtain ⟨hu, hux⟩ := dec8_some hd
      have hxt : x = txtB (dec3 u) := by rw [hux, txtB_data]
      have hst : fours 0 (ws.map (·.data.toList)) = fours (a * 256 + u) ((ws.map (·.data.toList)).drop (k + 1)) := by
        rw [HA.out.1, hdrop, fours, hd]
      have hpw : a * 256 + u < 256 ^ (k + 1) := by rw [Nat.pow_succ]; have := HA.out.2; omega
      have hk4 : 256 ^ (k + 1) ≤ 256 ^ 4 := Nat.pow_le_pow_right (by decide) (by omega)
      have HST := Lib.hid (And.intro hst (And.intro hpw (show a * 256 + u < 4294967296 from Nat.lt_of_lt_of_le hpw hk4)))
      have HAT := Lib.hid (fun (W : World) => atoi_u8 u hu W)
      rw [← hxt] at HAT
      have hI := HIT.out u hu
      rw [← hxt] at hI
      have HI := Lib.hid hI
      have ho2 : (u : Int) ≤ 255 := by omega
      have hor := or8 (x := (a : Int) * 256) (y := (u : Int)) (by omega) (by omega) (by omega) (by omega) (by omega)
      have hwr : IntKind.i64.wrap ((a : Int) * 256) = (a : Int) * 256 := IntWalk.i64_in _ (by omega)
      clear Er hst hpw hx hux hxt hdrop hxz hI hk4 HIT hd
      go_wp2_with fail
      refine (HAT.out _).mono ?_
      rintro e W2 ⟨rfl, E2⟩
      go_wp2_with fail
      refine (HI.out _ (HT.out.ext (HE1.out.trans (HE.out.trans E2)))).mono ?_
      rintro e W3 ⟨rfl, E3⟩
      go_wp2_with fail
      have HEE := (HE.out.trans E2).trans E3
      have hcast : (a : Int) * 256 + (u : Int) = ((a * 256 + u : Nat) : Int) := by omega
      obtain ⟨s1, s2, s3⟩ := HST.out
      clear HST HAT HI
      generalize a * 256 + u = b at *
      refine ⟨⟨k + 1, b, by omega, Lib.hid ⟨s1, s2⟩, s3, ?_, rfl, HEE⟩, by simp [intOf]; omega⟩
      rw [← hcast]
    | none =>
      have hnone : four t.data.toList = none := by rw [H0.out, HA.out.1, hdrop, fours, hd]
      have HN := Lib.hid hnone
      have HD := Lib.hid (fun u hu => dec8_none hd (u := u) hu)
      have HAT := Lib.hid (fun (W : World) (TW : Tabs W) => atoi_any x (by omega) W TW)
      clear Er hx hdrop hxz hnone hd
      go_wp2_with fail
      refine (HAT.out _ (HT.out.ext (HE1.out.trans HE.out))).mono ?_
      rintro e W2 ⟨he, E2⟩
      rcases he with ⟨v, rfl⟩ | ⟨v, p, rfl⟩
      · by_cases h0 : v < 0
        · go_wp2_with fail
          go_returns
          exact ⟨.inr ⟨HN.out, rfl⟩, HE1.out.trans (HE.out.trans E2)⟩
        · by_cases h255 : 255 < v
          · go_wp2_with fail
            go_returns
            exact ⟨.inr ⟨HN.out, rfl⟩, HE1.out.trans (HE.out.trans E2)⟩
          · obtain ⟨u, rfl⟩ := Int.eq_ofNat_of_zero_le (show 0 ≤ v by omega)
            have hI := Lib.hid (HIT.out u (by omega) W2 (HT.out.ext (HE1.out.trans (HE.out.trans E2))))
            have hne : ((txtB (dec3 u)).toList == x.toList) = false := neq_yes _ _ (fun e => HD.out u (by omega) (by rw [← e]; rfl))
            generalize txtB (dec3 u) = S at *
            go_wp2_with fail
            refine hI.out.mono ?_
            rintro e W3 ⟨rfl, E3⟩
            go_wp2_with fail
            go_returns
            exact ⟨.inr ⟨HN.out, rfl⟩, HE1.out.trans ((HE.out.trans E2).trans E3)⟩
      · go_wp2_with fail
        go_returns
        exact ⟨.inr ⟨HN.out, rfl⟩, HE1.out.trans (HE.out.trans E2)⟩
end Go.Proofs.YtonjifkjammopaaGreatDoor
