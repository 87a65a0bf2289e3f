/- The document's SixOf of any text. Conditions: as each lemma states them. -/
import Derived.Test.YtonjifkjammopaaGreatDoorRTxt
import Derived.Test.YtonjifkjammopaaGreatDoorRDec
import Derived.Test.YtonjifkjammopaaGreatDoorRowL
import Derived.Deep.CutBlock
namespace Go.Proofs.YtonjifkjammopaaGreatDoor
open Go.RowKit
/-- Numbers as a row shows them. -/
def nI (l : List Nat) : List Int := l.map fun n : Nat => (n : Int)
theorem nI_len (l : List Nat) : (nI l).length = l.length := by simp [nI]
theorem nI_snoc (l : List Nat) (n : Nat) : nI (l ++ [n]) = nI l ++ [(n : Int)] := by simp [nI]
/-- The groups so far, in memory. -/
structure Grp (w0 w : World) (B : Nat) (vh vm : Value) (h m : List Nat) : Prop where
  hd : KI.Own 3 w B vh (nI h)
  tl : KI.Own 3 w B vm (nI m)
  ne : ∀ k, vh.ownBlock = some k → vm.ownBlock ≠ some k
  bel : Below B w0 w
  sz : B ≤ w.heap.size
/-- What a text's reading hands back. -/
def RG (t : List UInt8) (e : Ending) : Prop :=
  (∃ s, parsed t = some s ∧ e = .returned (.tuple #[s.v, .int .i64 0])) ∨ (parsed t = none ∧ e = .returned (.tuple #[zSix.v, .int .i64 5]))
namespace Pl
theorem scan_at {f k n : Nat} {h m : List Nat} {g : Bool} {c : UInt8} {l r : List UInt8} (hT : takeD 5 0 0 (c :: l) = (k, n, r)) : scan (f + 1) h m g (c :: l) =
    if k < 1 ∨ 4 < k then none else
    match (generalizing := false) r with
    | [] => some (if g then h else h ++ [n], if g then m ++ [n] else m)
    | [_] => none
    | c1 :: c2 :: r => if c1 ≠ 58 then none else if c2 = 58 then (if g then none else scan f (h ++ [n]) m true r) else scan f (if g then h else h ++ [n]) (if g then m ++ [n] else m) g (c2 :: r) := by
  rw [scan, hT]
  rfl
theorem scan0_gap (s r : List UInt8) (h : s = 58 :: 58 :: r) : scan0 s = scan (s.length + 1) [] [] true r := by
  subst h
  rfl
theorem scan0_no (s : List UInt8) (h : ∀ r, s ≠ 58 :: 58 :: r) : scan0 s = scan (s.length + 1) [] [] false s := by
  unfold scan0
  split
  · exact absurd rfl (h _)
  · rfl
end Pl
theorem rparsed_none {t : List UInt8} (h : Pl.scan0 t = none) : parsed t = none := by
  rw [← rparsed_eq]
  unfold rparsed
  rw [h]
/-- Numbers as an array's cells. -/
def laidC (l : List Int) : Array Value := (l.map (Value.int .i64)).toArray
theorem laidC_at (l : List Int) (i : Nat) : (laidC l)[i]? = l[i]?.map (Value.int .i64) := by simp [laidC]
theorem laidC_set (l : List Int) (i : Nat) (x : Int) : (laidC l).setIfInBounds i (.int .i64 x) = laidC (l.set i x) := by
  unfold laidC
  rw [List.setIfInBounds_toArray, List.map_set]
theorem laidC_put (l : List Int) (i : Nat) (x : Int) (hi : i < l.length) (h8 : i < 8) (hx : l.getD i 0 = x) : (laidC (l.take i ++ List.replicate (8 - i) 0)).setIfInBounds i (.int .i64 x) = laidC (l.take (i + 1) ++ List.replicate (8 - (i + 1)) 0) := by
  rw [laidC_set]
  congr 1
  have e : (l.take i).length = i := by rw [List.length_take]; omega
  rw [List.set_append_right _ _ (by omega), e, Nat.sub_self, show 8 - i = (8 - (i + 1)) + 1 by omega, List.replicate_succ, List.set_cons_zero, List.take_add_one, List.getElem?_eq_getElem hi, ← hx]
  have hg : l.getD i 0 = l[i] := by simp [List.getD, hi]
  rw [hg]
  show _ = (l.take i ++ [l[i]]) ++ _
  rw [List.append_assoc]
  rfl
theorem laidC_mid (Z : List Int) (l : List Int) (i n : Nat) (x : Int) (hi : i < l.length) (hn : n = l.length) (hx : l.getD i 0 = x) : (laidC (Z ++ (l.take i ++ List.replicate (n - i) 0))).setIfInBounds (Z.length + i) (.int .i64 x) = laidC (Z ++ (l.take (i + 1) ++ List.replicate (n - (i + 1)) 0)) := by
  rw [laidC_set]
  congr 1
  have e : (l.take i).length = i := by rw [List.length_take]; omega
  rw [List.set_append_right _ _ (by omega), show Z.length + i - Z.length = i by omega, List.set_append_right _ _ (by omega), e, Nat.sub_self, show n - i = (n - (i + 1)) + 1 by omega, List.replicate_succ, List.set_cons_zero, List.take_add_one, List.getElem?_eq_getElem hi, ← hx]
  have hg : l.getD i 0 = l[i] := by simp [List.getD, hi]
  rw [hg]
  show _ = Z ++ ((l.take i ++ [l[i]]) ++ _)
  rw [List.append_assoc]
  rfl
set_option maxRecDepth 100000 in
set_option maxHeartbeats 2000000 in
theorem rsixof_any (t : ByteArray) (w : World) (ht : t.size ≤ 1048576) : Calls Tryz.prog 13 #[.string t] w fun e w' => RG t.data.toList e ∧ Ext w w' := by
  obtain ⟨bs, hbs⟩ : ∃ bs, bs = t.data.toList := ⟨_, rfl⟩
  have hbl : bs.length = t.size := by rw [hbs, Lib.size_eq]
  rw [← hbs]
  have HAT := Lib.hid (show ∀ (i : Nat) (hi : i < t.size), bs.drop i = t[i]'hi :: bs.drop (i + 1) from fun i hi => by
    rw [List.drop_eq_getElem_cons (by omega)]
    congr 1
    simp only [hbs]
    rfl)
  have KR := Blk.new w 23 zc6
  have E0 := (Ext.refl w).alloc (.cells zc6 23)
  have HBT := Lib.hid hbs
  clear hbs
  go_enter Tryz.func13, Tryz.ntmps13
  go_upto_region 4 with (fail)
  refine at_worldE (fun W => Ext w W ∧ Blk W w.heap.size 23 zc6) ⟨E0, KR⟩ ?_
  clear E0 KR
  rintro W1 ⟨E1, K1⟩
  go_cut [25] (fun v25 wc => W1 = wc ∧ ∃ b : Bool, v25 = .bool b ∧ (b = true → 2 ≤ t.size ∧ Pl.scan0 bs = Pl.scan (bs.length + 1) [] [] true (bs.drop 2)) ∧ (b = false → Pl.scan0 bs = Pl.scan (bs.length + 1) [] [] false bs))
  case first =>
    by_cases h1 : 1 < t.size
    case neg =>
      have h1' : ¬ (1 : Int) < (t.size : Int) := by omega
      have hsc := Pl.scan0_no bs (fun r h => by rw [h] at hbl; simp at hbl; omega)
      have HSC := Lib.hid hsc
      clear hsc
      go_wp2_with fail
      go_meet
      exact ⟨rfl, false, rfl, (fun h => by cases h), fun _ => HSC.out⟩
    have h1' : (1 : Int) < (t.size : Int) := by omega
    have h0' : (0 : Int) < (t.size : Int) := by omega
    obtain ⟨c, hc⟩ : ∃ c, t[0]'(by omega) = c := ⟨_, rfl⟩
    obtain ⟨d, hd⟩ : ∃ d, t[1]'(by omega) = d := ⟨_, rfl⟩
    have hbs : bs = c :: d :: bs.drop 2 := by
      have e0 := HAT.out 0 (by omega)
      have e1 := HAT.out 1 (by omega)
      rw [hc] at e0
      rw [hd] at e1
      rw [List.drop_zero] at e0
      rw [← e1]
      exact e0
    have HBS := Lib.hid hbs
    clear hbs
    by_cases h58 : c.toNat = 58
    case neg =>
      have h58' : ¬ (c.toNat : Int) = 58 := by omega
      have hsc := Pl.scan0_no bs (fun r h => by
        rw [HBS.out] at h
        exact h58 (by rw [(List.cons.inj h).1]; rfl))
      have HSC := Lib.hid hsc
      clear hsc
      go_wp2_with fail
      go_meet
      exact ⟨rfl, false, rfl, (fun h => by cases h), fun _ => HSC.out⟩
    have h58' : (c.toNat : Int) = 58 := by omega
    by_cases h59 : d.toNat = 58
    case neg =>
      have h59' : ¬ (d.toNat : Int) = 58 := by omega
      have hsc := Pl.scan0_no bs (fun r h => by
        rw [HBS.out] at h
        exact h59 (by rw [(List.cons.inj (List.cons.inj h).2).1]; rfl))
      have HSC := Lib.hid hsc
      clear hsc
      go_wp2_with fail
      go_meet
      exact ⟨rfl, false, by rw [show ((d.toNat : Int) == 58) = false by simpa using h59'], (fun h => by cases h), fun _ => HSC.out⟩
    have h59' : (d.toNat : Int) = 58 := by omega
    have hsc := Pl.scan0_gap bs (bs.drop 2) (by rw [← UInt8.toNat_inj.1 (show c.toNat = (58 : UInt8).toNat from h58)]; rw [show (c : UInt8) = c from rfl]; exact (HBS.out.trans (by rw [show d = c from UInt8.toNat_inj.1 (h59.trans h58.symm)])))
    have HSC := Lib.hid hsc
    clear hsc
    go_wp2_with fail
    go_meet
    exact ⟨rfl, true, rfl, (fun _ => ⟨by omega, HSC.out⟩), fun h => by cases h⟩
  obtain ⟨rfl, g0, rfl, hg1, hg0⟩ := hcut
  have HG := Lib.hid (And.intro hg1 hg0)
  clear hg1 hg0
  go_upto_if 25 with (fail)
  go_cut [6, 7] (fun v6 v7 wc => W1 = wc ∧ v6 = .bool g0 ∧ v7 = .int .i64 (if g0 then 2 else 0))
  case first =>
    cases g0
    · go_wp2_with fail
      go_meet
      exact ⟨rfl, rfl, rfl⟩
    · go_wp2_with fail
      go_meet
      exact ⟨rfl, rfl, rfl⟩
  obtain ⟨rfl, rfl, rfl⟩ := hcut
  obtain ⟨o0, ho0, ho1, hsc⟩ : ∃ o0 : Nat, (if g0 then 2 else 0 : Int) = (o0 : Int) ∧ o0 ≤ t.size ∧ Pl.scan0 bs = Pl.scan (bs.length + 1) [] [] g0 (bs.drop o0) := by
    cases hg : g0
    · exact ⟨0, rfl, Nat.zero_le _, HG.out.2 hg⟩
    · obtain ⟨h1, h2⟩ := HG.out.1 hg
      exact ⟨2, rfl, h1, h2⟩
  rw [ho0]
  have HSC := Lib.hid hsc
  clear ho0 hsc HG
  go_upto_block 0 with (fail)
  go_cut [4, 5] (fun vh vm wc => ∃ h m : List Nat, Pl.scan0 bs = some (h, m) ∧ h.length + m.length ≤ 1048577 ∧ Grp W1 wc W1.heap.size vh vm h m)
  case first =>
    go_wp2_with fail
    go_loopw [4, 5, 6, 7] (fun vh vm vg va wr => ∃ (h m : List Nat) (g : Bool) (o f : Nat), vg = .bool g ∧ va = .int .i64 (o : Int) ∧ o ≤ t.size ∧ Hid (Pl.scan0 bs = Pl.scan f h m g (bs.drop o)) ∧ t.size < f + o ∧ h.length + m.length ≤ o ∧ Grp W1 wr W1.heap.size vh vm h m) (fun _ _ _ va _ => t.size - (intOf va).toNat)
    case atStart => exact ⟨[], [], g0, o0, bs.length + 1, rfl, rfl, ho1, HSC, by omega, by simp, ⟨Kin.Own.nil _ _, Kin.Own.nil _ _, (fun k hk => by cases hk), Below.refl _ _, Nat.le_refl _⟩⟩
    case round =>
      obtain ⟨h, m, g, o, f, rfl, rfl, ho, HS, hf, hlen, G⟩ := hrel
      by_cases hlt : o < t.size
      case neg =>
        obtain rfl : o = t.size := by omega
        have hlt' : ¬ (t.size : Int) < (t.size : Int) := by omega
        have hres : Pl.scan0 bs = some (h, m) := by
          obtain ⟨f', rfl⟩ : ∃ k, f = k + 1 := ⟨f - 1, by omega⟩
          rw [HS.out, List.drop_of_length_le (by omega), Pl.scan]
        have HR := Lib.hid hres
        clear hres
        go_wp2_with fail
        go_meet
        exact ⟨h, m, HR.out, by omega, G⟩
      have hlt' : (o : Int) < (t.size : Int) := by omega
      have HG := Lib.hid G
      go_upto_block 2 with (fail)
      go_cut [7, 8, 9] (fun va vn vk wc => wr = wc ∧ ∃ k n : Nat, (Pl.takeD 5 0 0 (bs.drop o) = (k, n, bs.drop (o + k)) ∧ o + k ≤ t.size ∧ k ≤ 5) ∧ va = .int .i64 ((o + k : Nat) : Int) ∧ vn = .int .i64 (n : Int) ∧ vk = .int .i64 (k : Int))
      case first =>
        clear G
        go_wp2_with fail
        go_loopw [7, 8, 9] (fun va vn vk W => ∃ k n : Nat, Hid (Pl.takeD 5 0 0 (bs.drop o) = Pl.takeD (5 - k) k n (bs.drop (o + k))) ∧ o + k ≤ t.size ∧ k ≤ 5 ∧ n < 16 ^ k ∧ va = .int .i64 ((o + k : Nat) : Int) ∧ vn = .int .i64 (n : Int) ∧ vk = .int .i64 (k : Int) ∧ wr = W) (fun _ _ vk _ => 5 - (intOf vk).toNat)
        case atStart => exact ⟨0, 0, Lib.hid rfl, by omega, by omega, by decide, rfl, rfl, rfl, rfl⟩
        case round =>
          obtain ⟨k, n, HT, hok, hk5, hn, rfl, rfl, rfl, rfl⟩ := hrel
          obtain ⟨O, hO⟩ : ∃ O, o + k = O := ⟨_, rfl⟩
          rw [hO]
          have hok' : O ≤ t.size := by omega
          by_cases hOs : O < t.size
          case neg =>
            have hOs' : ¬ (O : Int) < (t.size : Int) := by omega
            have hfin : Pl.takeD 5 0 0 (bs.drop o) = (k, n, bs.drop (o + k)) := by
              rw [HT.out, Pl.takeD_ends (.inl (List.drop_of_length_le (by omega)))]
            have HF := Lib.hid hfin
            clear hfin
            go_wp2_with fail
            go_meet
            exact ⟨rfl, k, n, ⟨HF.out, hok, hk5⟩, by rw [hO], rfl, rfl⟩
          have hOs' : (O : Int) < (t.size : Int) := by omega
          by_cases hk : k < 5
          case neg =>
            have hk' : ¬ (k : Int) < 5 := by omega
            have hfin : Pl.takeD 5 0 0 (bs.drop o) = (k, n, bs.drop (o + k)) := by
              rw [HT.out, show 5 - k = 0 by omega]
              rfl
            have HF := Lib.hid hfin
            clear hfin
            go_wp2_with fail
            go_meet
            exact ⟨rfl, k, n, ⟨HF.out, hok, hk5⟩, by rw [hO], rfl, rfl⟩
          have hk' : (k : Int) < 5 := by omega
          obtain ⟨c, hc⟩ : ∃ c, t[O]'hOs = c := ⟨_, rfl⟩
          have hdrop : bs.drop (o + k) = c :: bs.drop (o + k + 1) := by rw [hO, HAT.out O hOs, hc]
          have HD := Lib.hid hdrop
          have HDG := Lib.hid (fun W => rdigit_any c W)
          cases hdg : Pl.dgL c with
          | none =>
            have hdI : dgI c = -1 := by unfold dgI; rw [hdg]
            have hfin : Pl.takeD 5 0 0 (bs.drop o) = (k, n, bs.drop (o + k)) := by
              rw [HT.out, hdrop, show 5 - k = (4 - k) + 1 by omega, Pl.takeD, hdg]
            have HF := Lib.hid hfin
            clear hfin hdrop hdg
            go_wp2_with fail
            refine (HDG.out _).mono ?_
            rintro e W2 ⟨rfl, rfl⟩
            rw [hdI]
            go_wp2_with fail
            go_meet
            exact ⟨rfl, k, n, ⟨HF.out, hok, hk5⟩, by rw [hO], rfl, rfl⟩
          | some d =>
            have hdI : dgI c = (d : Int) := by unfold dgI; rw [hdg]
            have hd16 := Pl.dgL_lt hdg
            have hstep : Pl.takeD 5 0 0 (bs.drop o) = Pl.takeD (5 - (k + 1)) (k + 1) (n * 16 + d) (bs.drop (o + (k + 1))) := by
              rw [HT.out, hdrop, show 5 - k = (4 - k) + 1 by omega, Pl.takeD, hdg, show 5 - (k + 1) = 4 - k by omega]
              rfl
            have hn2 : n * 16 + d < 16 ^ (k + 1) := by rw [Nat.pow_succ]; omega
            have hnb : n < 16 ^ 5 := Nat.lt_of_lt_of_le hn (Nat.pow_le_pow_right (by decide) hk5)
            have hnb : n < 1048576 := hnb
            have w1 : IntKind.i64.wrap ((n : Int) * 16) = (n : Int) * 16 := IntWalk.i64_in _ (by omega)
            have w2 : IntKind.i64.wrap ((n : Int) * 16 + (d : Int)) = (n : Int) * 16 + (d : Int) := IntWalk.i64_in _ (by omega)
            have w3 : IntKind.i64.wrap ((O : Int) + 1) = (O : Int) + 1 := IntWalk.i64_in _ (by omega)
            have w4 : IntKind.i64.wrap ((k : Int) + 1) = (k : Int) + 1 := IntWalk.i64_in _ (by omega)
            have HST := Lib.hid (And.intro hstep hn2)
            clear hstep hn2 hdrop hdg hn
            go_wp2_with fail
            refine (HDG.out _).mono ?_
            rintro e W2 ⟨rfl, rfl⟩
            rw [hdI]
            go_wp2_with fail
            refine (HDG.out _).mono ?_
            rintro e W2 ⟨rfl, rfl⟩
            rw [hdI]
            go_wp2_with fail
            exact ⟨⟨k + 1, n * 16 + d, Lib.hid HST.out.1, by omega, by omega, HST.out.2, by congr 1; omega, by congr 1, by congr 1, trivial⟩, by simp [intOf]; omega⟩
      obtain ⟨hw, k, n, ⟨hT, hok, hk5⟩, hv7, hv8, hv9⟩ := hcut
      subst hw hv7 hv8 hv9
      obtain ⟨f', rfl⟩ : ∃ k, f = k + 1 := ⟨f - 1, by omega⟩
      have hd0 := HAT.out o hlt
      have hsa := HS.out
      rw [hd0] at hT hsa
      rw [Pl.scan_at hT] at hsa
      have HSA := Lib.hid hsa
      clear hT hd0 hsa HS
      obtain ⟨O, hO⟩ : ∃ O, o + k = O := ⟨_, rfl⟩
      rw [hO] at HSA hok ⊢
      by_cases hk1 : k < 1
      case pos =>
        have hk1' : (k : Int) < 1 := by omega
        have hnone : Pl.scan0 bs = none := by rw [HSA.out, if_pos (.inl hk1)]
        have KRr := K1.below G.bel K1.lt
        have st := KRr.store (ty := 23) (cs := zSix.cells) rfl Tryz.size6 (by simp [Six.cells, zSix, Value.oneCell'])
        have KF := KRr.row zSix.cells
        have E7 := (E1.trans G.bel).row (k := w.heap.size) (Nat.le_refl _) zSix.cells
        have HP := Lib.hid (rparsed_none hnone)
        clear KRr hnone
        go_wp2_with ((apply store_by rfl _ _ _ rfl _ rfl); (focus (with_reducible assumption)); (focus rfl))
        refine bodyPost_ret (results_cell2 Tryz.results13 _ _ w.heap.size 23 zSix.cells _ rfl KF Tryz.underlying23 rfl Tryz.size6) rfl ⟨.inr ⟨HP.out, rfl⟩, E7⟩
      have hk1' : ¬ (k : Int) < 1 := by omega
      by_cases hk4 : 4 < k
      case pos =>
        have hk4' : (4 : Int) < (k : Int) := by omega
        have hnone : Pl.scan0 bs = none := by rw [HSA.out, if_pos (.inr hk4)]
        have KRr := K1.below G.bel K1.lt
        have st := KRr.store (ty := 23) (cs := zSix.cells) rfl Tryz.size6 (by simp [Six.cells, zSix, Value.oneCell'])
        have KF := KRr.row zSix.cells
        have E7 := (E1.trans G.bel).row (k := w.heap.size) (Nat.le_refl _) zSix.cells
        have HP := Lib.hid (rparsed_none hnone)
        clear KRr hnone
        go_wp2_with ((apply store_by rfl _ _ _ rfl _ rfl); (focus (with_reducible assumption)); (focus rfl))
        refine bodyPost_ret (results_cell2 Tryz.results13 _ _ w.heap.size 23 zSix.cells _ rfl KF Tryz.underlying23 rfl Tryz.size6) rfl ⟨.inr ⟨HP.out, rfl⟩, E7⟩
      have hk4' : ¬ (4 : Int) < (k : Int) := by omega
      have hnz : ¬ (k < 1 ∨ 4 < k) := by omega
      have hsa := HSA.out
      rw [if_neg hnz] at hsa
      have HSB := Lib.hid hsa
      clear hsa HSA hnz
      go_upto_if 63 with (fail)
      go_cut [4, 5] (fun vh' vm' wc => Grp W1 wc W1.heap.size vh' vm' (if g then h else h ++ [n]) (if g then m ++ [n] else m))
      case first =>
        have hz := G.sz
        have hlen2 : h.length + m.length ≤ 1048576 := by omega
        cases g
        · go_wp2_with (at_builtin; refine Halt.out ?_)
          refine Halt.mk ?_
          refine appIL rfl _ _ rfl W1.heap.size _ (nI h) rfl (HG.out.hd.ext ((Ext.refl wr).alloc _)) _ _ _ [(n : Int)] rfl (Ints.see (Blk.new wr _ _).ints1) (by rw [nI_len]; omega) (by simp; omega) ?_
          intro v8 W8 o8 g8 b8 l8
          have hz8 := World.size_alloc wr (.cells #[.int .i64 (n : Int)] 3)
          have HG8 : Grp W1 W8 W1.heap.size v8 u5 (h ++ [n]) m := by
            refine ⟨by rw [nI_snoc]; exact o8, (HG.out.tl.ext ((Ext.refl wr).alloc _)).rowed g8 (fun k hk he => HG.out.ne k he.symm hk), fun k hk he => ?_, (HG.out.bel.alloc HG.out.sz _).trans b8, Nat.le_trans HG.out.sz (Nat.le_trans (by omega) g8.size)⟩
            rcases l8 with h1 | h1
            · rw [h1] at hk
              exact HG.out.ne k hk he
            · rw [h1] at hk
              cases hk
              have := (HG.out.tl.lt _ he).2
              omega
          have HG9 := Lib.hid HG8
          clear o8 g8 b8 l8 HG8
          go_wp2_with fail
          go_meet
          exact HG9.out
        · go_wp2_with (at_builtin; refine Halt.out ?_)
          refine Halt.mk ?_
          refine appIL rfl _ _ rfl W1.heap.size _ (nI m) rfl (HG.out.tl.ext ((Ext.refl wr).alloc _)) _ _ _ [(n : Int)] rfl (Ints.see (Blk.new wr _ _).ints1) (by rw [nI_len]; omega) (by simp; omega) ?_
          intro v8 W8 o8 g8 b8 l8
          have hz8 := World.size_alloc wr (.cells #[.int .i64 (n : Int)] 3)
          have HG8 : Grp W1 W8 W1.heap.size u4 v8 h (m ++ [n]) := by
            refine ⟨(HG.out.hd.ext ((Ext.refl wr).alloc _)).rowed g8 (fun k hk he => HG.out.ne k hk he.symm), by rw [nI_snoc]; exact o8, fun k hk he => ?_, (HG.out.bel.alloc HG.out.sz _).trans b8, Nat.le_trans HG.out.sz (Nat.le_trans (by omega) g8.size)⟩
            rcases l8 with h1 | h1
            · rw [h1] at he
              exact HG.out.ne k hk he
            · rw [h1] at he
              cases he
              have := (HG.out.hd.lt _ hk).2
              omega
          have HG9 := Lib.hid HG8
          clear o8 g8 b8 l8 HG8
          go_wp2_with fail
          go_meet
          exact HG9.out
      have G := hcut
      have hlen2 : (if g then h else h ++ [n]).length + (if g then m ++ [n] else m).length ≤ o + 1 := by cases g <;> simp <;> omega
      generalize hh' : (if g then h else h ++ [n]) = h' at *
      generalize hm' : (if g then m ++ [n] else m) = m' at *
      have HHM := Lib.hid (And.intro hh' hm')
      clear hh' hm' hcut
      by_cases hOs : O < t.size
      case neg =>
        have hOs' : O = t.size := by omega
        have hres : Pl.scan0 bs = some (h', m') := by
          rw [HSB.out, List.drop_of_length_le (show bs.length ≤ O by omega)]
        have HR := Lib.hid hres
        have HGG := Lib.hid G
        subst hOs'
        clear hres G
        go_wp2_with fail
        go_meet
        exact ⟨h', m', HR.out, by omega, HGG.out⟩
      have hOs' : ¬ (O : Int) = (t.size : Int) := by omega
      obtain ⟨c, hc⟩ : ∃ c, t[O]'hOs = c := ⟨_, rfl⟩
      have hd1 : bs.drop O = c :: bs.drop (O + 1) := by rw [HAT.out O hOs, hc]
      have w1 : IntKind.i64.wrap ((O : Int) + 1) = (O : Int) + 1 := IntWalk.i64_in _ (by omega)
      by_cases h58 : c.toNat = 58
      case neg =>
        have h58' : ¬ (c.toNat : Int) = 58 := by omega
        have hnone : Pl.scan0 bs = none := by
          have hc58 : c ≠ 58 := fun h => h58 (by rw [h]; rfl)
          rw [HSB.out, hd1]
          cases bs.drop (O + 1) with
          | nil => rfl
          | cons d r => exact if_pos hc58
        clear hd1
        have KRr := K1.below G.bel K1.lt
        have st := KRr.store (ty := 23) (cs := zSix.cells) rfl Tryz.size6 (by simp [Six.cells, zSix, Value.oneCell'])
        have KF := KRr.row zSix.cells
        have E7 := (E1.trans G.bel).row (k := w.heap.size) (Nat.le_refl _) zSix.cells
        have HP := Lib.hid (rparsed_none hnone)
        clear KRr hnone
        go_wp2_with ((apply store_by rfl _ _ _ rfl _ rfl); (focus (with_reducible assumption)); (focus rfl))
        refine bodyPost_ret (results_cell2 Tryz.results13 _ _ w.heap.size 23 zSix.cells _ rfl KF Tryz.underlying23 rfl Tryz.size6) rfl ⟨.inr ⟨HP.out, rfl⟩, E7⟩
      have h58' : (c.toNat : Int) = 58 := by omega
      by_cases hO1 : O + 1 = t.size
      case pos =>
        have hO1' : (O : Int) + 1 = (t.size : Int) := by omega
        have hnone : Pl.scan0 bs = none := by
          rw [HSB.out, hd1, List.drop_of_length_le (show bs.length ≤ O + 1 by omega)]
        clear hd1
        have KRr := K1.below G.bel K1.lt
        have st := KRr.store (ty := 23) (cs := zSix.cells) rfl Tryz.size6 (by simp [Six.cells, zSix, Value.oneCell'])
        have KF := KRr.row zSix.cells
        have E7 := (E1.trans G.bel).row (k := w.heap.size) (Nat.le_refl _) zSix.cells
        have HP := Lib.hid (rparsed_none hnone)
        clear KRr hnone
        go_wp2_with ((apply store_by rfl _ _ _ rfl _ rfl); (focus (with_reducible assumption)); (focus rfl))
        refine bodyPost_ret (results_cell2 Tryz.results13 _ _ w.heap.size 23 zSix.cells _ rfl KF Tryz.underlying23 rfl Tryz.size6) rfl ⟨.inr ⟨HP.out, rfl⟩, E7⟩
      have hO1' : ¬ (O : Int) + 1 = (t.size : Int) := by omega
      have hO2 : O + 1 < t.size := by omega
      obtain ⟨d, hd⟩ : ∃ d, t[O + 1]'hO2 = d := ⟨_, rfl⟩
      have hd2 : bs.drop (O + 1) = d :: bs.drop (O + 1 + 1) := by rw [HAT.out (O + 1) hO2, hd]
      have hsb := HSB.out
      rw [hd1, hd2] at hsb
      have hsb : Pl.scan0 bs = if c ≠ 58 then none else if d = 58 then (if g then none else Pl.scan f' (h ++ [n]) m true (bs.drop (O + 1 + 1))) else Pl.scan f' h' m' g (d :: bs.drop (O + 1 + 1)) := hsb
      rw [if_neg (show ¬ c ≠ 58 from fun h => h (UInt8.toNat_inj.1 h58))] at hsb
      have hix : ∀ W, (Instr.index 9 (.string t) (.int .i64 ((O : Int) + 1))).run Tryz.prog W = .ok (.int .u8 d.toNat) W := fun W => by
        rw [run_index_string W 9 t .i64 _ Tryz.underlying9, dif_pos ⟨by omega, by omega⟩, ← hd]
        rfl
      have w2 : IntKind.i64.wrap ((O : Int) + 1 + 1) = (O : Int) + 1 + 1 := IntWalk.i64_in _ (by omega)
      have HGG := Lib.hid G
      by_cases h59 : d.toNat = 58
      case neg =>
        have h59' : ¬ (d.toNat : Int) = 58 := by omega
        rw [if_neg (show ¬ d = 58 from fun h => h59 (by rw [h]; rfl)), ← hd2] at hsb
        have HR := Lib.hid hsb
        clear hd1 hd2 hsb G HSB hd
        go_wp2_with fail
        exact ⟨⟨h', m', g, O + 1, f', rfl, by congr 1, by omega, HR, by omega, by omega, HGG.out⟩, by simp [intOf]; omega⟩
      have h59' : (d.toNat : Int) = 58 := by omega
      rw [if_pos (show d = 58 from UInt8.toNat_inj.1 h59)] at hsb
      cases g
      case true =>
        have hnone : Pl.scan0 bs = none := hsb
        clear hd1 hd2 hsb HSB hd
        have KRr := K1.below G.bel K1.lt
        have st := KRr.store (ty := 23) (cs := zSix.cells) rfl Tryz.size6 (by simp [Six.cells, zSix, Value.oneCell'])
        have KF := KRr.row zSix.cells
        have E7 := (E1.trans G.bel).row (k := w.heap.size) (Nat.le_refl _) zSix.cells
        have HP := Lib.hid (rparsed_none hnone)
        clear KRr hnone
        go_wp2_with ((apply store_by rfl _ _ _ rfl _ rfl); (focus (with_reducible assumption)); (focus rfl))
        refine bodyPost_ret (results_cell2 Tryz.results13 _ _ w.heap.size 23 zSix.cells _ rfl KF Tryz.underlying23 rfl Tryz.size6) rfl ⟨.inr ⟨HP.out, rfl⟩, E7⟩
      have hsb : Pl.scan0 bs = Pl.scan f' h' m' true (bs.drop (O + 1 + 1)) := by
        rw [← HHM.out.1, ← HHM.out.2]
        exact hsb
      have HR := Lib.hid hsb
      clear hd1 hd2 hsb G HSB hd
      go_wp2_with fail
      exact ⟨⟨h', m', true, O + 1 + 1, f', rfl, by congr 1, by omega, HR, by omega, by omega, HGG.out⟩, by simp [intOf]; omega⟩
  obtain ⟨h, m, hsc, hhm, G⟩ := hcut
  have HSCN := Lib.hid hsc
  have HLE := Lib.hid (Pl.scan0_le hsc)
  have HGG := Lib.hid G
  obtain ⟨a2, c2, hv2, hnc2, r2, _, b2⟩ := G.hd.open
  obtain ⟨a3, c3, hv3, hnc3, r3, _, b3⟩ := G.tl.open
  rw [nI_len] at hv2 hnc2 r2 hv3 hnc3 r3
  subst hv2 hv3
  obtain ⟨n2, hn2⟩ : ∃ n2, h.length = n2 := ⟨_, rfl⟩
  obtain ⟨n3, hn3⟩ : ∃ n3, m.length = n3 := ⟨_, rfl⟩
  rw [hn2] at hnc2 r2 ⊢
  rw [hn3] at hnc3 r3 ⊢
  have hw1 : IntKind.i64.wrap ((n2 : Int) + (n3 : Int)) = (n2 : Int) + (n3 : Int) := IntWalk.i64_in _ (by omega)
  by_cases hle : n2 + n3 ≤ 8
  case neg =>
    have hle' : (8 : Int) < (n2 : Int) + (n3 : Int) := by omega
    have hnone : parsed bs = none := by
      rw [← rparsed_eq]
      unfold rparsed
      rw [HSCN.out]
      exact if_neg (by omega)
    have KRr := K1.below G.bel K1.lt
    have st := KRr.store (ty := 23) (cs := zSix.cells) rfl Tryz.size6 (by simp [Six.cells, zSix, Value.oneCell'])
    have KF := KRr.row zSix.cells
    have E7 := (E1.trans G.bel).row (k := w.heap.size) (Nat.le_refl _) zSix.cells
    have HP := Lib.hid hnone
    clear KRr hnone r2 r3 b2 b3 G
    go_wp2_with ((apply store_by rfl _ _ _ rfl _ rfl); (focus (with_reducible assumption)); (focus rfl))
    refine bodyPost_ret (results_cell2 Tryz.results13 _ _ w.heap.size 23 zSix.cells _ rfl KF Tryz.underlying23 rfl Tryz.size6) rfl ⟨.inr ⟨HP.out, rfl⟩, E7⟩
  have hle' : ¬ (8 : Int) < (n2 : Int) + (n3 : Int) := by omega
  have hz := G.sz
  have hzw : w.heap.size < W1.heap.size := K1.lt
  obtain ⟨p, hp⟩ : ∃ p, 8 - n3 = p := ⟨_, rfl⟩
  have KZ := Blk.new wc 23 zc6
  have EZ := (Ext.refl wc).alloc (.cells zc6 23)
  have HR2 := Lib.hid r2.ints
  have HR3 := Lib.hid r3.ints
  clear r2 r3 b2 b3 G
  go_upto_region 31 with (fail)
  refine at_worldE (fun W => Ext wc W ∧ Blk W wc.heap.size 23 (laidC ([] ++ List.replicate (8 - 0) 0))) ⟨EZ, (by
    have e : laidC ([] ++ List.replicate (8 - 0) 0) = zc6 := rfl
    rw [e]
    exact KZ)⟩ ?_
  clear EZ KZ
  rintro W5 ⟨E5, K5⟩
  have HE5 := Lib.hid E5
  have HK5 := Lib.hid K5
  clear E5 K5
  go_wp2_with fail
  go_loopw [11] (fun vi wr => ∃ i : Nat, i ≤ n2 ∧ vi = .int .i64 (i : Int) ∧ Ext wc wr ∧ Blk wr wc.heap.size 23 (laidC ((nI h).take i ++ List.replicate (8 - i) 0))) (fun vi _ => n2 - (intOf vi).toNat)
  case atStart => exact ⟨0, by omega, rfl, HE5.out, HK5.out⟩
  case round =>
    obtain ⟨i, hi, rfl, Er, Kr⟩ := hrel
    have HE := Lib.hid Er
    have HK := Lib.hid Kr
    have wi : IntKind.i64.wrap ((i : Int) + 1) = (i : Int) + 1 := IntWalk.i64_in _ (by omega)
    by_cases hlt : i < n2
    case pos =>
      have hlt' : (i : Int) < (n2 : Int) := by omega
      obtain ⟨b, off, rfl, _, hc⟩ := (HR2.out.ext Er).at (by omega)
      have ck := hc i hlt
      have hget : (nI h).getD i 0 = (h.getD i 0 : Nat) := by
        have h1 : i < h.length := by omega
        simp [nI, List.getD, h1]
      rw [hget] at ck
      have cz : wr.cell? ⟨wc.heap.size, i, none⟩ = some (.int .i64 0) := by
        rw [Kr.cells, laidC_at]
        rw [List.getElem?_append_right (by rw [List.length_take, nI_len]; omega), List.length_take, nI_len, List.getElem?_replicate, if_pos (by omega)]
        rfl
      have fz := Kr.free i
      have K6 := Kr.put i (.int .i64 ((h.getD i 0 : Nat) : Int))
      rw [laidC_put (nI h) i ((h.getD i 0 : Nat) : Int) (by rw [nI_len]; omega) (by omega) hget] at K6
      have E6 := Er.set (p := ⟨wc.heap.size, i, none⟩) (Nat.le_refl _) (.int .i64 ((h.getD i 0 : Nat) : Int))
      have HK6 := Lib.hid K6
      have HE6 := Lib.hid E6
      clear Er Kr hc K6 E6 hget
      generalize h.getD i 0 = u at *
      go_wp2_with fail
      exact ⟨⟨i + 1, by omega, rfl, HE6.out, HK6.out⟩, by simp [intOf]; omega⟩
    obtain rfl : i = n2 := by omega
    have hlt' : ¬ (i : Int) < (i : Int) := by omega
    have wp : IntKind.i64.wrap (8 - (n3 : Int)) = (p : Int) := by rw [show 8 - (n3 : Int) = (p : Int) by omega]; exact IntWalk.i64_in _ (by omega)
    clear Er Kr
    obtain ⟨AL, hAL⟩ : ∃ AL, AL = nI h ++ List.replicate (8 - i - n3) 0 := ⟨_, rfl⟩
    have hALl : AL.length = p := by rw [hAL, List.length_append, nI_len, List.length_replicate]; omega
    have hK0 : laidC ((nI h).take i ++ List.replicate (8 - i) 0) = laidC (AL ++ ((nI m).take 0 ++ List.replicate (n3 - 0) 0)) := by
      rw [hAL, List.take_of_length_le (by rw [nI_len]; omega), List.append_assoc, List.take_zero, List.nil_append, List.replicate_append_replicate, show 8 - i - n3 + (n3 - 0) = 8 - i by omega]
    have HK0 := Lib.hid (by have := HK.out; rwa [hK0] at this)
    have HAL := Lib.hid hAL
    clear hK0 hAL HK HK5
    go_wp2_with fail
    go_loopw [12] (fun vj wr' => ∃ j : Nat, j ≤ n3 ∧ vj = .int .i64 (j : Int) ∧ Ext wc wr' ∧ Blk wr' wc.heap.size 23 (laidC (AL ++ ((nI m).take j ++ List.replicate (n3 - j) 0)))) (fun vj _ => n3 - (intOf vj).toNat)
    case atStart => exact ⟨0, by omega, rfl, HE.out, HK0.out⟩
    case round =>
      clear HK0 HE
      obtain ⟨j, hj, rfl, Er, Kr⟩ := hrel
      have HE := Lib.hid Er
      have HK := Lib.hid Kr
      have wj : IntKind.i64.wrap ((j : Int) + 1) = (j : Int) + 1 := IntWalk.i64_in _ (by omega)
      by_cases hlt : j < n3
      case pos =>
        have hlt2 : (j : Int) < (n3 : Int) := by omega
        obtain ⟨b, off, rfl, _, hc⟩ := (HR3.out.ext Er).at (by omega)
        have ck := hc j hlt
        have hget : (nI m).getD j 0 = (m.getD j 0 : Nat) := by
          have h1 : j < m.length := by omega
          simp [nI, List.getD, h1]
        rw [hget] at ck
        have wpj : IntKind.i64.wrap ((p : Int) + (j : Int)) = (p : Int) + (j : Int) := IntWalk.i64_in _ (by omega)
        have cz : wr.cell? ⟨wc.heap.size, p + j, none⟩ = some (.int .i64 0) := by
          rw [Kr.cells, laidC_at]
          rw [List.getElem?_append_right (by omega), List.getElem?_append_right (by rw [List.length_take, nI_len]; omega), List.length_take, nI_len, List.getElem?_replicate, if_pos (by omega)]
          rfl
        have fz := Kr.free (p + j)
        have K6 := Kr.put (p + j) (.int .i64 ((m.getD j 0 : Nat) : Int))
        have hmid := laidC_mid AL (nI m) j n3 ((m.getD j 0 : Nat) : Int) (by rw [nI_len]; omega) (by rw [nI_len]; omega) hget
        rw [hALl] at hmid
        rw [hmid] at K6
        have E6 := Er.set (p := ⟨wc.heap.size, p + j, none⟩) (Nat.le_refl _) (.int .i64 ((m.getD j 0 : Nat) : Int))
        have HK6 := Lib.hid K6
        have HE6 := Lib.hid E6
        clear Er Kr hc K6 E6 hget hmid
        generalize m.getD j 0 = u at *
        go_wp2_with fail
        exact ⟨⟨j + 1, by omega, rfl, HE6.out, HK6.out⟩, by simp [intOf]; omega⟩
      obtain rfl : j = n3 := by omega
      have hlt2 : ¬ (j : Int) < (j : Int) := by omega
      obtain ⟨L, hL⟩ : ∃ L, L = Pl.scanL h m := ⟨_, rfl⟩
      have hL8 : L.length = 8 := by rw [hL]; unfold Pl.scanL; simp; omega
      have hLle : ∀ u ∈ L, u ≤ 65535 := fun u hu => by
        rw [hL] at hu
        unfold Pl.scanL at hu
        simp only [List.mem_append, List.mem_replicate] at hu
        rcases hu with (hu | ⟨_, rfl⟩) | hu
        · exact HLE.out.1 u hu
        · omega
        · exact HLE.out.2 u hu
      have KL : Blk wr wc.heap.size 23 (sixOf L).cells := by
        have e : laidC (AL ++ ((nI m).take j ++ List.replicate (j - j) 0)) = (sixOf L).cells := by
          rw [HAL.out, List.take_of_length_le (by rw [nI_len]; omega), Nat.sub_self, List.replicate_zero, List.append_nil]
          have := sixOf_cells hL8
          apply Array.ext'
          rw [this, hL]
          unfold laidC Pl.scanL nI
          rw [hn2, hn3]
          simp [Function.comp_def]
        rw [← e]
        exact Kr
      have hp2 : parsed bs = if Pl.textL L = bs then some (sixOf L) else none := by
        rw [← rparsed_eq]
        unfold rparsed
        rw [HSCN.out]
        show (if h.length + m.length ≤ 8 then (if Pl.textL (Pl.scanL h m) = bs then some (sixOf (Pl.scanL h m)) else none) else none) = _
        rw [if_pos (by omega), ← hL]
      have HP2 := Lib.hid hp2
      have hok := sixOf_ok hL8 hLle
      have hnl := sixOf_nl hL8
      have ld := KL.six0
      have HPR := Lib.hid (rsixtext_any (sixOf L) wr hok)
      have HNL := Lib.hid hnl
      have hE1w : Ext w wr := (E1.trans HGG.out.bel).trans Er
      have KRr := (K1.below HGG.out.bel K1.lt).ext Er
      have HKR := Lib.hid KRr
      have HKL := Lib.hid KL
      have HEW := Lib.hid hE1w
      have hbt : bs = t.data.toList := HBT.out
      have HB := Lib.hid hbt
      clear Er Kr HK hp2 hok hnl hL8 hLle hL KRr KL hE1w hbt
      go_wp2_with ((apply load_by rfl _ _ rfl _ rfl); (focus (with_reducible assumption)))
      refine HPR.out.mono ?_
      rintro e W6 ⟨rfl, q6⟩
      rw [HNL.out]
      have KR6 := HKR.out.ext q6
      have K6 := HKL.out.ext q6
      have E6 := HEW.out.trans q6
      by_cases htx : Pl.textL L = bs
      case pos =>
        have hp3 : parsed bs = some (sixOf L) := by rw [HP2.out, if_pos htx]
        have hT : txtB (Pl.textL L) = t := by rw [htx, HB.out, txtB_data]
        rw [hT]
        have st := KR6.store (ty := 23) (cs := (sixOf L).cells) rfl Tryz.size6 (by simp [Six.cells, Value.oneCell'])
        have ld := K6.six0
        have KF := KR6.row (sixOf L).cells
        have E7 := E6.row (k := w.heap.size) (Nat.le_refl _) (sixOf L).cells
        have HF := Lib.hid hp3
        clear hp3 hT K6 KR6 q6 E6 htx
        go_wp2_with (first | ((apply load_by rfl _ _ rfl _ rfl); (focus (with_reducible assumption))) | ((apply store_by rfl _ _ _ rfl _ rfl); (focus (with_reducible assumption)); (focus rfl)))
        refine bodyPost_ret (results_cell2 Tryz.results13 _ _ w.heap.size 23 (sixOf L).cells _ rfl KF Tryz.underlying23 rfl Tryz.size6) rfl ⟨.inl ⟨_, HF.out, rfl⟩, E7⟩
      have hp3 : parsed bs = none := by rw [HP2.out, if_neg htx]
      have hne : ((txtB (Pl.textL L)).toList == t.toList) = false := neq_yes _ _ (fun e => htx (by rw [HB.out, ← e]; rfl))
      have st := KR6.store (ty := 23) (cs := zSix.cells) rfl Tryz.size6 (by simp [Six.cells, zSix, Value.oneCell'])
      have KF := KR6.row zSix.cells
      have E7 := E6.row (k := w.heap.size) (Nat.le_refl _) zSix.cells
      have HF := Lib.hid hp3
      generalize txtB (Pl.textL L) = u at hne ⊢
      clear hp3 K6 KR6 q6 E6 htx
      go_wp2_with ((apply store_by rfl _ _ _ rfl _ rfl); (focus (with_reducible assumption)); (focus rfl))
      refine bodyPost_ret (results_cell2 Tryz.results13 _ _ w.heap.size 23 zSix.cells _ rfl KF Tryz.underlying23 rfl Tryz.size6) rfl ⟨.inr ⟨HF.out, rfl⟩, E7⟩
end Go.Proofs.YtonjifkjammopaaGreatDoor
