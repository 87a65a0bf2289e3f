/- Lemmas of this seat, bound together: TabZ CrL. Conditions: as each lemma states them. -/
import Derived.Test.YtbjogkpepfgegaaDoorK44
import Derived.Test.YtbjogkpepfgegaaDoorK46
namespace Go.Proofs.YtbjogkpepfgegaaDoor
open Go.RowKit
theorem take_same {s : PS} {who : Six} (h : s.takeQ who ≠ 0) : s.take who = s := by unfold PS.take; rw [if_neg h]
/-- Make, whole. -/
theorem make_any (G : TG) (s : PS) (B : List Bd) (f : Flow) (back far now : Int) (w : World) (h : TB w G s B) :
    Calls Tryd.prog 65 #[.pointer (some ⟨G.gT, 0, none⟩), f.v, .int .i64 back, .int .i64 far, .int .i64 now] w fun e w' =>
      e = .returned (.tuple #[(if bMakeQ f back far now s B = 0 then newBd f back far now s else zeroBd).v, erv (bMakeQ f back far now s B)]) ∧ TB w' G (if bMakeQ f back far now s B = 0 then s.take f.client else s) (if bMakeQ f back far now s B = 0 then insB (newBd f back far now s) B else B) ∧ Kp G.mut w w' := by
  obtain ⟨l, cF, cN, ht, p, hnd⟩ := h.ex
  obtain ⟨h1, h2⟩ := flow_look h.inv.toInv0 p f
  have bad : ∀ q : Int, q ≠ 0 → bMakeQ f back far now s B = q → (∃ X : Prop, X → True) → Calls Tryd.prog 65 #[.pointer (some ⟨G.gT, 0, none⟩), f.v, .int .i64 back, .int .i64 far, .int .i64 now] w (fun e w' => e = .returned (.tuple #[zeroBd.v, errv q]) ∧ Ext w w') →
      Calls Tryd.prog 65 #[.pointer (some ⟨G.gT, 0, none⟩), f.v, .int .i64 back, .int .i64 far, .int .i64 now] w fun e w' =>
      e = .returned (.tuple #[(if bMakeQ f back far now s B = 0 then newBd f back far now s else zeroBd).v, erv (bMakeQ f back far now s B)]) ∧ TB w' G (if bMakeQ f back far now s B = 0 then s.take f.client else s) (if bMakeQ f back far now s B = 0 then insB (newBd f back far now s) B else B) ∧ Kp G.mut w w' := by
    intro q hq e _ hc
    rw [e, if_neg hq, if_neg hq, if_neg hq]
    refine hc.mono ?_
    rintro e w' ⟨rfl, E⟩
    exact ⟨by unfold erv; rw [if_neg hq], h.ext E, E.kp _⟩
  by_cases ho : okF f = true
  · have hf := okF_iff.1 ho
    by_cases ha : okA back = true
    · have hb := okA_iff.1 ha
      by_cases hw : w16 far = true
      · have hw' := w16_iff.1 hw
        by_cases hn : okT now = true
        · cases hff : findF f B with
          | some b =>
            obtain ⟨i, x, hx, hxb, hl⟩ := h1 b hff
            exact bad 8 (by decide) (by unfold bMakeQ; rw [if_pos ho, if_pos (by simp [ha, hw, hn]), hff]; rfl) ⟨True, id⟩ (tmake_clash _ _ _ _ _ s l cF cN f back far now w ht hf hb hw' hn i b.near hl)
          | none =>
            have e : bMakeQ f back far now s B = s.takeQ f.client := by unfold bMakeQ; rw [if_pos ho, if_pos (by simp [ha, hw, hn]), hff]; rfl
            rw [e]
            by_cases hq : s.takeQ f.client = 0
            · obtain ⟨hi, hno⟩ := h.inv.make hf hb hw' (okT_iff.1 hn) hff hq
              rw [if_pos hq, if_pos hq, if_pos hq]
              refine (tmake_ok _ _ _ _ _ s l cF cN f back far now w ht hf hb hw' hn (h2 hff) ((near_look h.inv.toInv0 p _).2 hno) hq).mono ?_
              rintro e w' ⟨rfl, k, t⟩
              refine ⟨by rw [hq]; rfl, ⟨⟨_, _, _, t, ?_, ?_⟩, hi⟩, k⟩
              · rw [List.map_append]
                exact ((p.append_right _).trans (List.perm_append_singleton _ _)).trans (insB_perm _ _).symm
              · rw [List.map_append, List.nodup_append]
                refine ⟨hnd, by simp, fun a ha b hb he => ?_⟩
                obtain ⟨x, hx, rfl⟩ := List.mem_map.1 ha
                have := ht.nears.old x.inN (List.mem_map_of_mem hx)
                have hx2 : x.sN < cN := this
                simp at hb
                omega
            · rw [if_neg hq, if_neg hq, if_neg hq]
              refine (tmake_full _ _ _ _ _ s l cF cN f back far now w ht hf hb hw' hn (h2 hff) hq).mono ?_
              rintro e w' ⟨rfl, k, q⟩
              rw [take_same hq] at q
              have ha := ht.apart
              refine ⟨by unfold erv; rw [if_neg hq], ⟨⟨l, cF, cN, ⟨ht.ptr.kp k (by simp at ha ⊢; omega), q, ht.flows.kp k (by simp at ha ⊢; omega), ht.nears.kp k (by simp at ha ⊢; omega), ha⟩, p, hnd⟩, h.inv⟩, k.mono (by simp [TG.mut])⟩
        · exact bad 1 (by decide) (by unfold bMakeQ; rw [if_pos ho, if_neg (by simp [hn])]) ⟨True, id⟩ (tmake_now _ _ _ _ _ s l cF cN f back far now w ht hf hb hw' (by simpa [okT] using hn))
      · exact bad 1 (by decide) (by unfold bMakeQ; rw [if_pos ho, if_neg (by simp [hw])]) ⟨True, id⟩ (tmake_far _ _ _ _ _ s l cF cN f back far now w ht hf hb fun h => hw (w16_iff.2 h))
    · exact bad 1 (by decide) (by unfold bMakeQ; rw [if_pos ho, if_neg (by simp [ha])]) ⟨True, id⟩ (tmake_back _ _ _ _ _ s l cF cN f back far now w ht hf fun h => ha (okA_iff.2 h))
  · exact bad 1 (by decide) (by unfold bMakeQ; rw [if_neg ho]) ⟨True, id⟩ (tmake_bad _ _ _ _ _ s l cF cN f back far now w ht fun h => ho (okF_iff.2 h))
end Go.Proofs.YtbjogkpepfgegaaDoor
namespace Go.Proofs.YtbjogkpepfgegaaDoor
open Go.RowKit
/-- A packet that crosses: what is known of it. -/
structure Crossing (p : P6) (n : Nat) (xs : List Int) (src dst : Int) : Prop where
  good : p.good = true
  small : n ≤ 320
  src : 0 ≤ src ∧ src < 4294967296
  dst : 0 ≤ dst ∧ dst < 4294967296
  hop : 2 ≤ p.hop ∧ p.hop ≤ 255
  kind : p.kind = 6 ∨ p.kind = 17
  ok : Pl.SegOk (Pl.decSeg p.kind xs) (xs.drop (Pl.segSize p.kind)).length
  size : Pl.segSize p.kind + (xs.drop (Pl.segSize p.kind)).length = n
  enc : body6 (Pl.decSeg p.kind xs) p.src p.dst (xs.drop (Pl.segSize p.kind)) = xs
theorem crossing_of {p : P6} {n : Nat} {xs : List Int} {src dst : Int} (hl : xs.length = n) (hb : Pl.IsB xs) (h : x4Q p n xs src dst = 0) : Crossing p n xs src dst := by
  unfold x4Q at h
  split at h
  · rename_i h0; exact absurd h h0
  rename_i h0
  have hf : p.fault n = 0 := Decidable.byContradiction h0
  obtain ⟨hg, hn⟩ := P6.fault_zero hf
  split at h
  · cases h
  rename_i h1
  have hw : w32 src = true ∧ w32 dst = true := Decidable.byContradiction h1
  split at h
  · rename_i h2; exact absurd h h2
  rename_i h2
  have ho : Pl.opQ p.kind xs (val6 p.src p.dst p.kind n) = 0 := Decidable.byContradiction h2
  split at h
  · cases h
  rename_i h3
  obtain ⟨hk, _, _, hok, hq⟩ := op_zero hb ho
  obtain ⟨_, _, hi, he, _⟩ := Pl.segQ_zero hb hq
  obtain ⟨_, _, ⟨_, hh⟩, _⟩ := P6.good_all hg
  have hs : Pl.segSize p.kind + (xs.drop (Pl.segSize p.kind)).length = n := by
    have := hi.1.1
    rw [List.length_drop]
    omega
  refine ⟨hg, hn, w32_yes hw.1, w32_yes hw.2, ⟨by omega, hh⟩, hk, hok, hs, ?_⟩
  have hov : ov6 (Pl.decSeg p.kind xs) p.src p.dst (xs.drop (Pl.segSize p.kind)).length = val6 p.src p.dst p.kind n := by
    unfold ov6
    rw [Pl.decSeg_kind, ← hs]
    congr 1
  unfold body6
  rw [hov]
  exact he
section
variable {p : P6} {n : Nat} {xs : List Int} {src dst : Int}
/-- What came out. -/
def Crossing.body (p : P6) (xs : List Int) (src dst : Int) : List Int := body4 (Pl.decSeg p.kind xs) src dst (xs.drop (Pl.segSize p.kind))
theorem Crossing.body_eq : x4B p xs src dst 0 = Crossing.body p xs src dst := by unfold x4B; rw [if_pos rfl]; rfl
theorem Crossing.len (h : Crossing p n xs src dst) : (Crossing.body p xs src dst).length = n := by
  unfold Crossing.body body4
  rw [Pl.segBytes_length (by rw [Pl.decSeg_kind]; exact h.kind), Pl.decSeg_kind]
  exact h.size
theorem Crossing.isB (h : Crossing p n xs src dst) (hb : Pl.IsB xs) : Pl.IsB (Crossing.body p xs src dst) :=
  Pl.segBytes_isB h.ok (Pl.segCheck_bd _ _ _) (hb.drop _)
theorem set_getD {l : List Int} {i j : Nat} {x : Int} (h : j ≠ i) : (l.set i x).getD j 0 = l.getD j 0 := by
  rw [List.getD_eq_getElem?_getD, List.getElem?_set_ne (Ne.symm h), List.getD_eq_getElem?_getD]
theorem seg_far {s : Sg} {c c' : Int} {ds : List Int} (hk : s.kind = 6 ∨ s.kind = 17) {i : Nat} (h0 : i ≠ Pl.segAt s.kind) (h1 : i ≠ Pl.segAt s.kind + 1) : (Pl.segBytes s c ds).getD i 0 = (Pl.segBytes s c' ds).getD i 0 := by
  rw [← Pl.segBytes_set s c ds hk, ← Pl.segBytes_set s c' ds hk, set_getD h1, set_getD h0, set_getD h1, set_getD h0]
theorem Crossing.far (h : Crossing p n xs src dst) {i : Nat} (h0 : i ≠ Pl.segAt p.kind) (h1 : i ≠ Pl.segAt p.kind + 1) : xs.getD i 0 = (Crossing.body p xs src dst).getD i 0 := by
  have he := h.enc
  have hk : (Pl.decSeg p.kind xs).kind = p.kind := Pl.decSeg_kind _ _
  have hf := fun c c' => seg_far (s := Pl.decSeg p.kind xs) (c := c) (c' := c') (ds := xs.drop (Pl.segSize p.kind)) (by rw [hk]; exact h.kind) (i := i) (by rw [hk]; exact h0) (by rw [hk]; exact h1)
  have he' : xs.getD i 0 = (body6 (Pl.decSeg p.kind xs) p.src p.dst (xs.drop (Pl.segSize p.kind))).getD i 0 := by rw [he]
  rw [he']
  exact hf _ _
theorem Crossing.dec (h : Crossing p n xs src dst) : Pl.decSeg p.kind (Crossing.body p xs src dst) = Pl.decSeg p.kind xs := by
  have hk : (Pl.decSeg p.kind xs).kind = p.kind := Pl.decSeg_kind _ _
  have := Pl.segBytes_dec (c := Pl.segCheck (Pl.decSeg p.kind xs) (ov4 (Pl.decSeg p.kind xs) src dst (xs.drop (Pl.segSize p.kind)).length) (xs.drop (Pl.segSize p.kind))) h.ok
  rw [hk] at this
  exact this
theorem Crossing.drop (h : Crossing p n xs src dst) : (Crossing.body p xs src dst).drop (Pl.segSize p.kind) = xs.drop (Pl.segSize p.kind) := by
  have hk : (Pl.decSeg p.kind xs).kind = p.kind := Pl.decSeg_kind _ _
  have := Pl.segBytes_drop (s := Pl.decSeg p.kind xs) (c := Pl.segCheck (Pl.decSeg p.kind xs) (ov4 (Pl.decSeg p.kind xs) src dst (xs.drop (Pl.segSize p.kind)).length) (xs.drop (Pl.segSize p.kind))) (xs := xs.drop (Pl.segSize p.kind)) (by rw [hk]; exact h.kind)
  rw [hk] at this
  exact this
theorem Crossing.ok4 (h : Crossing p n xs src dst) : Pl.Ok4 src dst (p.hop - 1) p.kind 0 := by
  obtain ⟨h0, h1⟩ := h.hop
  have hk := h.kind
  exact ⟨h.src, h.dst, ⟨by omega, by omega⟩, ⟨by omega, by omega⟩, ⟨by omega, by omega⟩⟩
theorem Crossing.back (h : Crossing p n xs src dst) : x6Q src dst (p.hop - 1) p.kind 0 n (Crossing.body p xs src dst) p.src p.dst = if p.hop < 3 then 7 else 0 := by
  have hf : fault4 src dst (p.hop - 1) p.kind 0 n = 0 := by
    have hok : ok4b src dst (p.hop - 1) p.kind 0 = true := by
      cases hb' : ok4b src dst (p.hop - 1) p.kind 0
      · exact absurd h.ok4 (ok4b_no hb')
      · rfl
    unfold fault4
    rw [hok, if_pos rfl, if_pos h.small]
  obtain ⟨hs, hd, _, _⟩ := P6.good_all h.good
  have hq : Pl.opQ p.kind (Crossing.body p xs src dst) (val4 src dst p.kind n) = 0 := by
    rw [(Pl.op_known h.kind).1]
    have hk : (Pl.decSeg p.kind xs).kind = p.kind := Pl.decSeg_kind _ _
    have hov : ov4 (Pl.decSeg p.kind xs) src dst (xs.drop (Pl.segSize p.kind)).length = val4 src dst p.kind n := by
      unfold ov4
      rw [hk, ← h.size]
      congr 1
    have := Pl.segQ_enc (over := ov4 (Pl.decSeg p.kind xs) src dst (xs.drop (Pl.segSize p.kind)).length) h.ok val4_word
    rw [hk, hov] at this
    unfold Crossing.body body4
    rw [hov]
    exact this
  unfold x6Q
  rw [if_neg (by rw [hf]; simp), if_neg (by simp [hs, hd]), if_neg (by rw [hq]; simp)]
  by_cases h3 : p.hop < 3
  · rw [if_pos h3, if_pos (by omega)]
  · rw [if_neg h3, if_neg (by omega)]
theorem Crossing.same (h : Crossing p n xs src dst) : x6B p.kind (Crossing.body p xs src dst) p.src p.dst 0 = xs ∧ x6p (p.hop - 1) p.kind p.src p.dst 0 = ⟨p.src, p.dst, p.hop - 1 - 1, p.kind⟩ := by
  constructor
  · unfold x6B
    rw [if_pos rfl, h.dec, h.drop]
    exact h.enc
  · unfold x6p
    rw [if_pos rfl]
end
end Go.Proofs.YtbjogkpepfgegaaDoor
