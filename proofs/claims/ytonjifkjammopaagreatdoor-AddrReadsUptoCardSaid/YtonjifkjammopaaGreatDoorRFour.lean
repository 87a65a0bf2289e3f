/- The document's FourOf of any text. Conditions: as each lemma states them. -/
import Derived.Test.YtonjifkjammopaaGreatDoorFour4
import Derived.Test.YtonjifkjammopaaGreatDoorRSplit
import Derived.Test.YtonjifkjammopaaGreatDoorRDec
import Derived.Deep.RegionHeld3
namespace Go.Proofs.YtonjifkjammopaaGreatDoor
open Go.RowKit
def isDg (c : UInt8) : Bool := decide (48 ≤ c.toNat ∧ c.toNat ≤ 57)
def decV (w : List UInt8) : Nat := w.foldl (fun n c => n * 10 + (c.toNat - 48)) 0
theorem decV_snoc (w : List UInt8) (c : UInt8) : decV (w ++ [c]) = decV w * 10 + (c.toNat - 48) := by simp [decV, List.foldl_append]
theorem dec3_allf : ∀ u : Fin 256, (dec3 u.val).all isDg = true ∧ decV (dec3 u.val) = u.val := by decide +kernel
theorem dec8_is {w : List UInt8} {u : Nat} (h : dec8 w = some u) : (∀ c ∈ w, isDg c = true) ∧ w.length ≤ 3 ∧ decV w = u := by
  obtain ⟨hu, rfl⟩ := dec8_some h
  obtain ⟨h1, h2⟩ := dec3_allf ⟨u, hu⟩
  exact ⟨List.all_eq_true.1 h1, (dec3_len u).2, h2⟩
def FR (t : List UInt8) (e : Ending) : Prop :=
  (∃ n : Nat, four t = some n ∧ e = .returned (.tuple #[.int .i64 (n : Int), .int .i64 0])) ∨ (four t = none ∧ e = .returned (.tuple #[.int .i64 0, .int .i64 5]))
set_option maxRecDepth 100000 in
set_option maxHeartbeats 2000000 in
theorem rfour_any (t : ByteArray) (w : World) (ht : t.size ≤ 1048576) : Calls Tryz.prog 18 #[.string t] w fun e w' => FR t.data.toList e ∧ Ext w w' := by
  have hS := rsplit_any t w ht
  have hsz : ∀ x ∈ wordsB t ⟨#[46]⟩, x.size ≤ t.size := fun x hx => splitB_size _ _ _ x hx
  have h4 : four t.data.toList = if (wordsB t ⟨#[46]⟩).length = 4 then fours 0 ((wordsB t ⟨#[46]⟩).map (·.data.toList)) else none := by
    unfold four
    have := wordsB_data t ⟨#[46]⟩
    rw [show (⟨#[46]⟩ : ByteArray).data.toList = [46] from rfl] at this
    rw [← this, List.length_map]
  have hlen : (wordsB t ⟨#[46]⟩).length ≤ t.size + 1 := by
    rw [wordsB_len t ⟨#[46]⟩ (by decide)]
    have := Lib.countB_le ⟨#[46]⟩ (by decide) t.size t (Nat.le_refl _)
    omega
  generalize wordsB t ⟨#[46]⟩ = ws at *
  generalize hn : ws.length = n at *
  have HS := Lib.hid hS
  have HZ := Lib.hid hsz
  have H4 := Lib.hid h4
  clear hS hsz h4
  go_enter Tryz.func18, Tryz.ntmps18
  go_wp2_with fail
  refine HS.out.mono ?_
  rintro e W1 ⟨v, rfl, ow, E1⟩
  obtain ⟨a1, c1, rfl, hcap, hw, _⟩ := ow.open
  rw [hn] at hw hcap ⊢
  have HW := Lib.hid hw
  have HE1 := Lib.hid E1
  clear hw E1 HS ow
  by_cases hn4 : n = 4
  case neg =>
    have hn4' : ¬ (n : Int) = 4 := by omega
    have h0 := H4.out
    rw [if_neg hn4] at h0
    have H0 := Lib.hid h0
    clear h0
    go_wp2_with fail
    go_returns
    exact ⟨.inr ⟨H0.out, rfl⟩, HE1.out⟩
  subst hn4
  obtain ⟨bk, off, rfl, _, _⟩ := HW.out.at (Ext.refl W1) (by omega)
  have h0 := H4.out
  rw [if_pos rfl] at h0
  have H0 := Lib.hid h0
  clear h0
  go_wp2_with fail
  go_loopw [5, 6] (fun va vi wr => ∃ (k a : Nat), k ≤ 4 ∧ Hid (fours 0 (ws.map (·.data.toList)) = fours a ((ws.map (·.data.toList)).drop k) ∧ a < 256 ^ k) ∧ a < 4294967296 ∧ va = .int .i64 (a : Int) ∧ vi = .int .i64 (k : Int) ∧ Ext W1 wr) (fun _ vi _ => 4 - (intOf vi).toNat)
  case atStart => exact ⟨0, 0, by omega, Lib.hid ⟨rfl, by decide⟩, by omega, rfl, rfl, Ext.refl _⟩
  case round =>
    obtain ⟨k, a, hk, HA, ha2, rfl, rfl, Er⟩ := hrel
    have HE := Lib.hid Er
    have wk : IntKind.i64.wrap ((k : Int) + 1) = (k : Int) + 1 := IntWalk.i64_in _ (by omega)
    by_cases hlt : k < 4
    case neg =>
      obtain rfl : k = 4 := by omega
      have hfin : four t.data.toList = some a := by
        rw [H0.out, HA.out.1, List.drop_of_length_le (by rw [List.length_map]; omega)]
        rfl
      have HF := Lib.hid hfin
      clear Er hfin
      go_wp2_with fail
      go_returns
      exact ⟨.inl ⟨a, HF.out, rfl⟩, HE1.out.trans HE.out⟩
    have hlt' : (k : Int) < 4 := by omega
    obtain ⟨x, hx⟩ : ∃ x, ws[k]? = some x := ⟨_, List.getElem?_eq_getElem (by omega)⟩
    have hdrop : (ws.map (·.data.toList)).drop k = x.data.toList :: (ws.map (·.data.toList)).drop (k + 1) := by
      have hlt2 : k < (ws.map (·.data.toList)).length := by rw [List.length_map]; omega
      rw [List.drop_eq_getElem_cons hlt2]
      congr 1
      rw [List.getElem_map]
      rw [List.getElem?_eq_getElem (by omega)] at hx
      rw [Option.some.inj hx]
    have hxz := HZ.out x (List.mem_of_getElem? hx)
    have HC := Lib.hid (fun (W : World) (EW : Ext wr W) => ((HW.out.ext Er).ext EW).strs (by omega) k x hx)
    have HN := Lib.hid (fun (hd : dec8 x.data.toList = none) => show four t.data.toList = none by rw [H0.out, HA.out.1, hdrop, fours, hd])
    have HDR := Lib.hid (And.intro hdrop hx)
    obtain ⟨bs, hbs⟩ : ∃ bs, bs = x.data.toList := ⟨_, rfl⟩
    have hbl : bs.length = x.size := by rw [hbs, Lib.size_eq]
    have HBS := Lib.hid hbs
    clear Er hx hdrop
    go_wp2_with fail
    go_loopw [7, 8] (fun vn vj W => ∃ (j n : Nat), j ≤ x.size ∧ j ≤ 3 ∧ Hid (n = decV (bs.take j)) ∧ n < 10 ^ j ∧ vn = .int .i64 (n : Int) ∧ vj = .int .i64 (j : Int) ∧ W = wr) (fun _ vj _ => x.size - (intOf vj).toNat)
    case atStart => exact ⟨0, 0, by omega, by omega, Lib.hid rfl, by decide, rfl, rfl, rfl⟩
    case round =>
      obtain ⟨j, n, hj, hj3, HV, hn10, rfl, rfl, rfl⟩ := hrel
      have hc := HC.out _ (Ext.refl _)
      have wj : IntKind.i64.wrap ((j : Int) + 1) = (j : Int) + 1 := IntWalk.i64_in _ (by omega)
      have hn999 : n < 1000 := by
        have : 10 ^ j ≤ 10 ^ 3 := Nat.pow_le_pow_right (by decide) hj3
        omega
      by_cases hjx : j < x.size
      case neg =>
        obtain rfl : j = x.size := by omega
        have hjx' : ¬ (x.size : Int) < (x.size : Int) := by omega
        have hnv : n = decV bs := by rw [HV.out, List.take_of_length_le (by omega)]
        by_cases h255 : 255 < n
        case pos =>
          have hd : dec8 x.data.toList = none := by
            cases hd : dec8 x.data.toList with
            | none => rfl
            | some u =>
              obtain ⟨_, _, h3⟩ := dec8_is hd
              have := (dec8_some hd).1
              rw [hnv, hbs] at h255
              omega
          have HN2 := Lib.hid (HN.out hd)
          have h255' : (255 : Int) < (n : Int) := by omega
          clear hd hnv
          go_upto_region 16 with (fail)
          refine wp_region_quiet_lit (by kernel_rfl) (by kernel_rfl) ?_; repeat (go_big_quiet_step (fail))
          refine wpQuiet_nil ?_; intro _ hw'; obtain ⟨nq, hw''⟩ := hw'; subst hw''
          go_wp2_with fail
          go_returns
          exact ⟨.inr ⟨HN2.out, rfl⟩, HE1.out.trans (HE.out.drewN _)⟩
        have h255' : ¬ (255 : Int) < (n : Int) := by omega
        have HNV := Lib.hid hnv
        clear hnv
        by_cases hex : dec3 n = x.data.toList
        case neg =>
          have hd : dec8 x.data.toList = none := by
            cases hd : dec8 x.data.toList with
            | none => rfl
            | some u =>
              obtain ⟨_, _, h3⟩ := dec8_is hd
              rw [← hbs, ← HNV.out] at h3
              rw [← h3] at hd
              exact absurd (dec8_some hd).2 hex
          have HN2 := Lib.hid (HN.out hd)
          have hne : ((txtB (dec3 n)).toList == x.toList) = false := neq_yes _ _ (fun e => hex (by rw [← e]; rfl))
          clear hd
          have HD := Lib.hid (fun (W : World) => rdec_any n (by omega) W)
          generalize txtB (dec3 n) = S at *
          go_upto_region 16 with (fail)
          go_quiet ((go_at_call 29; exact Calls.quiet_of_same (HD.out _)))
          go_wp2_with fail
          go_returns
          exact ⟨.inr ⟨HN2.out, rfl⟩, HE1.out.trans (HE.out.drewN _)⟩
        have hxt : txtB (dec3 n) = x := by rw [hex, txtB_data]
        have hd : dec8 x.data.toList = some n := by rw [← hex]; exact dec8_dec3 (by omega)
        have hst : fours 0 (ws.map (·.data.toList)) = fours (a * 256 + n) ((ws.map (·.data.toList)).drop (k + 1)) := by
          rw [HA.out.1, HDR.out.1, fours, hd]
        have hpw : a * 256 + n < 256 ^ (k + 1) := by rw [Nat.pow_succ]; have := HA.out.2; omega
        have hk4 : 256 ^ (k + 1) ≤ 256 ^ 4 := Nat.pow_le_pow_right (by decide) (by omega)
        have HST := Lib.hid (And.intro hst (And.intro hpw (show a * 256 + n < 4294967296 from Nat.lt_of_lt_of_le hpw hk4)))
        have w1 : IntKind.i64.wrap ((a : Int) * 256) = (a : Int) * 256 := IntWalk.i64_in _ (by omega)
        have w2 : IntKind.i64.wrap ((a : Int) * 256 + (n : Int)) = (a : Int) * 256 + (n : Int) := IntWalk.i64_in _ (by omega)
        have HD := Lib.hid (fun (W : World) => (show Calls Tryz.prog 29 #[.int .i64 (n : Int)] W fun e w' => e = .returned (.string x) ∧ w' = W from by
          have := rdec_any n (by omega) W
          rwa [hxt] at this))
        clear hst hpw hk4 hd hxt hex
        go_upto_region 16 with (fail)
        go_quiet ((go_at_call 29; exact Calls.quiet_of_same (HD.out _)))
        go_wp2_with fail
        have hcast : (a : Int) * 256 + (n : Int) = ((a * 256 + n : Nat) : Int) := by omega
        obtain ⟨s1, s2, s3⟩ := HST.out
        clear HST
        generalize a * 256 + n = b at *
        refine ⟨⟨k + 1, b, by omega, Lib.hid ⟨s1, s2⟩, s3, ?_, rfl, HE.out.drewN _⟩, by simp [intOf]; omega⟩
        rw [← hcast]
      have hjx' : (j : Int) < (x.size : Int) := by omega
      obtain ⟨c, hcx⟩ : ∃ c, x[j]'hjx = c := ⟨_, rfl⟩
      have hbj : bs[j]'(by omega) = c := by rw [← hcx]; simp only [hbs]; rfl
      have hmem : c ∈ x.data.toList := by rw [← hbs, ← hbj]; exact List.getElem_mem _
      have hc256 := c.toNat_lt
      by_cases hbad : isDg c = true ∧ j ≤ 2
      case neg =>
        have hd : dec8 x.data.toList = none := by
          cases hd : dec8 x.data.toList with
          | none => rfl
          | some u =>
            obtain ⟨h1, h2, _⟩ := dec8_is hd
            exact absurd ⟨h1 c hmem, by rw [← Lib.size_eq] at h2; omega⟩ hbad
        have HN2 := Lib.hid (HN.out hd)
        have wc : IntKind.i64.wrap ((c.toNat : Int) - 48) = (c.toNat : Int) - 48 := IntWalk.i64_in _ (by omega)
        by_cases hlo : c.toNat < 48
        · have hlo' : (c.toNat : Int) - 48 < 0 := by omega
          clear hbad hd hbj hmem
          go_wp2_with fail
          go_returns
          exact ⟨.inr ⟨HN2.out, rfl⟩, HE1.out.trans HE.out⟩
        · have hlo' : ¬ (c.toNat : Int) - 48 < 0 := by omega
          by_cases hhi : 57 < c.toNat
          · have hhi' : (9 : Int) < (c.toNat : Int) - 48 := by omega
            clear hbad hd hbj hmem
            go_wp2_with fail
            go_returns
            exact ⟨.inr ⟨HN2.out, rfl⟩, HE1.out.trans HE.out⟩
          · have hhi' : ¬ (9 : Int) < (c.toNat : Int) - 48 := by omega
            have hj2 : (2 : Int) < (j : Int) := by
              have : ¬ j ≤ 2 := fun h => hbad ⟨by unfold isDg; simp; omega, h⟩
              omega
            clear hbad hd hbj hmem
            go_wp2_with fail
            go_returns
            exact ⟨.inr ⟨HN2.out, rfl⟩, HE1.out.trans HE.out⟩
      obtain ⟨hdg, hj2⟩ := hbad
      have hdg : 48 ≤ c.toNat ∧ c.toNat ≤ 57 := by unfold isDg at hdg; simpa using hdg
      have wc : IntKind.i64.wrap ((c.toNat : Int) - 48) = (c.toNat : Int) - 48 := IntWalk.i64_in _ (by omega)
      have hlo' : ¬ (c.toNat : Int) - 48 < 0 := by omega
      have hhi' : ¬ (9 : Int) < (c.toNat : Int) - 48 := by omega
      have hj2' : ¬ (2 : Int) < (j : Int) := by omega
      have w1 : IntKind.i64.wrap ((n : Int) * 10) = (n : Int) * 10 := IntWalk.i64_in _ (by omega)
      have w2 : IntKind.i64.wrap ((n : Int) * 10 + ((c.toNat : Int) - 48)) = (n : Int) * 10 + ((c.toNat : Int) - 48) := IntWalk.i64_in _ (by omega)
      have hV : n * 10 + (c.toNat - 48) = decV (bs.take (j + 1)) := by
        rw [List.take_add_one, List.getElem?_eq_getElem (by omega), hbj]
        show _ = decV (bs.take j ++ [c])
        rw [decV_snoc, ← HV.out]
      have hn2 : n * 10 + (c.toNat - 48) < 10 ^ (j + 1) := by rw [Nat.pow_succ]; omega
      have HV2 := Lib.hid (And.intro hV hn2)
      clear hV hn2 hbj hmem
      go_wp2_with fail
      exact ⟨⟨j + 1, n * 10 + (c.toNat - 48), by omega, by omega, Lib.hid HV2.out.1, HV2.out.2, by congr 1; omega, rfl, trivial⟩, by simp [intOf]; omega⟩
end Go.Proofs.YtonjifkjammopaaGreatDoor
