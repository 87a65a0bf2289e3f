/- bind.Make, whole. Conditions: as each lemma states them. -/
import Derived.Test.YtbjogkpepfgegaaGreatDoorK42
namespace Go.Proofs.YtbjogkpepfgegaaGreatDoor
open Go.RowKit
theorem take_same {s : PS} {who : Six} (h : s.takeQ who ≠ 0) : s.take who = s := by unfold PS.take; rw [if_neg h]
/-- Make, whole. -/
theorem make_any (G : TG) (s : PS) (B : List Bd) (f : Flow) (back far now : Int) (w : World) (h : TB w G s B) :
    Calls Tryz.prog 68 #[.pointer (some ⟨G.gT, 0, none⟩), f.v, .int .i64 back, .int .i64 far, .int .i64 now] w fun e w' =>
      e = .returned (.tuple #[(if bMakeQ f back far now s B = 0 then newBd f back far now s else zeroBd).v, erv (bMakeQ f back far now s B)]) ∧ TB w' G (if bMakeQ f back far now s B = 0 then s.take f.client else s) (if bMakeQ f back far now s B = 0 then insB (newBd f back far now s) B else B) ∧ Kp G.mut w w' := by
  obtain ⟨l, cF, cN, ht, p, hnd⟩ := h.ex
  obtain ⟨h1, h2⟩ := flow_look h.inv.toInv0 p f
  have bad : ∀ q : Int, q ≠ 0 → bMakeQ f back far now s B = q → (∃ X : Prop, X → True) → Calls Tryz.prog 68 #[.pointer (some ⟨G.gT, 0, none⟩), f.v, .int .i64 back, .int .i64 far, .int .i64 now] w (fun e w' => e = .returned (.tuple #[zeroBd.v, errv q]) ∧ Ext w w') →
      Calls Tryz.prog 68 #[.pointer (some ⟨G.gT, 0, none⟩), f.v, .int .i64 back, .int .i64 far, .int .i64 now] w fun e w' =>
      e = .returned (.tuple #[(if bMakeQ f back far now s B = 0 then newBd f back far now s else zeroBd).v, erv (bMakeQ f back far now s B)]) ∧ TB w' G (if bMakeQ f back far now s B = 0 then s.take f.client else s) (if bMakeQ f back far now s B = 0 then insB (newBd f back far now s) B else B) ∧ Kp G.mut w w' := by
    intro q hq e _ hc
    rw [e, if_neg hq, if_neg hq, if_neg hq]
    refine hc.mono ?_
    rintro e w' ⟨rfl, E⟩
    exact ⟨by unfold erv; rw [if_neg hq], h.ext E, E.kp _⟩
  by_cases ho : okF f = true
  · have hf := okF_iff.1 ho
    by_cases ha : okA back = true
    · have hb := okA_iff.1 ha
      by_cases hw : w16 far = true
      · have hw' := w16_iff.1 hw
        by_cases hn : okT now = true
        · cases hff : findF f B with
          | some b =>
            obtain ⟨i, x, hx, hxb, hl⟩ := h1 b hff
            exact bad 8 (by decide) (by unfold bMakeQ; rw [if_pos ho, if_pos (by simp [ha, hw, hn]), hff]; rfl) ⟨True, id⟩ (tmake_clash _ _ _ _ _ s l cF cN f back far now w ht hf hb hw' hn i b.near hl)
          | none =>
            have e : bMakeQ f back far now s B = s.takeQ f.client := by unfold bMakeQ; rw [if_pos ho, if_pos (by simp [ha, hw, hn]), hff]; rfl
            rw [e]
            by_cases hq : s.takeQ f.client = 0
            · obtain ⟨hi, hno⟩ := h.inv.make hf hb hw' (okT_iff.1 hn) hff hq
              rw [if_pos hq, if_pos hq, if_pos hq]
              refine (tmake_ok _ _ _ _ _ s l cF cN f back far now w ht hf hb hw' hn (h2 hff) ((near_look h.inv.toInv0 p _).2 hno) hq).mono ?_
              rintro e w' ⟨rfl, k, t⟩
              refine ⟨by rw [hq]; rfl, ⟨⟨_, _, _, t, ?_, ?_⟩, hi⟩, k⟩
              · rw [List.map_append]
                exact ((p.append_right _).trans (List.perm_append_singleton _ _)).trans (insB_perm _ _).symm
              · rw [List.map_append, List.nodup_append]
                refine ⟨hnd, by simp, fun a ha b hb he => ?_⟩
                obtain ⟨x, hx, rfl⟩ := List.mem_map.1 ha
                have := ht.nears.old x.inN (List.mem_map_of_mem hx)
                have hx2 : x.sN < cN := this
                simp at hb
                omega
            · rw [if_neg hq, if_neg hq, if_neg hq]
              refine (tmake_full _ _ _ _ _ s l cF cN f back far now w ht hf hb hw' hn (h2 hff) hq).mono ?_
              rintro e w' ⟨rfl, k, q⟩
              rw [take_same hq] at q
              have ha := ht.apart
              refine ⟨by unfold erv; rw [if_neg hq], ⟨⟨l, cF, cN, ⟨ht.ptr.kp k (by simp at ha ⊢; omega), q, ht.flows.kp k (by simp at ha ⊢; omega), ht.nears.kp k (by simp at ha ⊢; omega), ha⟩, p, hnd⟩, h.inv⟩, k.mono (by simp [TG.mut])⟩
        · exact bad 1 (by decide) (by unfold bMakeQ; rw [if_pos ho, if_neg (by simp [hn])]) ⟨True, id⟩ (tmake_now _ _ _ _ _ s l cF cN f back far now w ht hf hb hw' (by simpa [okT] using hn))
      · exact bad 1 (by decide) (by unfold bMakeQ; rw [if_pos ho, if_neg (by simp [hw])]) ⟨True, id⟩ (tmake_far _ _ _ _ _ s l cF cN f back far now w ht hf hb fun h => hw (w16_iff.2 h))
    · exact bad 1 (by decide) (by unfold bMakeQ; rw [if_pos ho, if_neg (by simp [ha])]) ⟨True, id⟩ (tmake_back _ _ _ _ _ s l cF cN f back far now w ht hf fun h => ha (okA_iff.2 h))
  · exact bad 1 (by decide) (by unfold bMakeQ; rw [if_neg ho]) ⟨True, id⟩ (tmake_bad _ _ _ _ _ s l cF cN f back far now w ht fun h => ho (okF_iff.2 h))
end Go.Proofs.YtbjogkpepfgegaaGreatDoor
