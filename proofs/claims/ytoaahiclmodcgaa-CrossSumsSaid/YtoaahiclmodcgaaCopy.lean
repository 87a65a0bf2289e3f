/- The builtin copy into bytes that the call itself has made, at a step of a region. Conditions: as each lemma states them. -/
import Derived.Test.YtoaahiclmodcgaaOwn
import Derived.Laws.CopyOwn
namespace Go.Proofs.Ytoaahiclmodcgaa
open Go.RowKit

theorem Try.sizeU8 : (Try.prog.info? 5).map (·.size) = some 1 := by kernel_rfl

theorem step_copy {w : World} {ops : Array Oper} {o : Oper} {a : Act} {K : Act → World → Prop} {Q : Exit → Act → World → Prop} {E : Prop} (hgd : o.guard = none) (d s : Operand)
    (ho : o.op = .call { callee := .builtin .copy, args := #[d, s], argTypes := #[41, 41] })
    (B g N cap lo m dc : Nat) (xs : List Int) (hown : Own w B (.slice (some ⟨g, 0, none⟩) N cap) xs) (hd : a.eval d = .slice (some ⟨g, lo, none⟩) m dc)
    (sp : Option Addr) (sc : Nat) (ys : List Int) (hs : a.eval s = .slice sp m sc) (hr : Ints .u8 w sp m ys) (hlo : lo + m ≤ N)
    (h : ∀ w', Own w' B (.slice (some ⟨g, 0, none⟩) N cap) (xs.take lo ++ (ys ++ xs.drop (lo + m))) → Below B w w' → K (a.put o.dst (goInt m)) w') :
    if Region.wanted o (yielded ops a.tmps) = true then Oper.wp Try.prog o a w K Q else E := by
  have hlen := hown.len
  obtain ⟨h1, h2⟩ := hown
  rcases h2 with ⟨h2, _⟩ | ⟨g', cap', cur, hv, hg, hh, hnc, hcap, hsz, htake⟩
  · cases h2
  · simp only [Value.slice.injEq, Option.some.injEq, Addr.mk.injEq, and_true] at hv
    obtain ⟨rfl, rfl, rfl⟩ := hv
    have hm : (bcells ys).length = m := by rw [bcells_length, hr.len]
    have hcl : cur.toList.length = cap := by simpa using hsz
    refine step_copy_splice hgd d s _ _ ho 5 Try.underlying41 Try.sizeU8 (some ⟨g, lo, none⟩) sp m dc m sc hd hs g lo cur.toList 5 (by simpa using hh) (bcells ys) (by rw [hm]; simp) ?_ (by rw [hm, hcl]; omega) (bcells_one ys) B w (Below.refl B w) hg ?_
    · intro hpos
      refine ⟨rfl, ?_⟩
      obtain ⟨b, off, rfl, _, hc⟩ := hr.at (by omega)
      refine ⟨_, rfl, fun j u hj => ?_⟩
      have hlt : j < m := by have := (List.getElem?_eq_some_iff.1 hj).1; omega
      have hlt' : j < ys.length := by rw [hr.len]; exact hlt
      rw [bcells, List.getElem?_map, List.getElem?_eq_getElem hlt'] at hj
      simp only [Option.map_some, Option.some.injEq] at hj
      rw [← hj, Addr.add_lit, hc j hlt]
      simp [List.getD, hlt']
    · intro w' hg' hb
      rw [hm]
      refine h w' ?_ hb
      have hl : (xs.take lo ++ (ys ++ xs.drop (lo + m))).length = xs.length := by
        simp only [List.length_append, List.length_take, List.length_drop, hr.len]; omega
      have hT : (splice cur.toList lo (bcells ys)).take xs.length = bcells (xs.take lo ++ (ys ++ xs.drop (lo + m))) := by
        have htake' : cur.toList.take xs.length = bcells xs := by rw [← htake]; simp
        unfold splice
        rw [hm]
        have e1 : cur.toList.take lo = bcells (xs.take lo) := by
          have : cur.toList.take lo = (cur.toList.take xs.length).take lo := by rw [List.take_take, Nat.min_eq_left (by omega)]
          rw [this, htake', bcells, bcells, List.map_take]
        have e2 : (cur.toList.drop (lo + m)).take (xs.length - (lo + m)) = bcells (xs.drop (lo + m)) := by
          have : (cur.toList.drop (lo + m)).take (xs.length - (lo + m)) = (cur.toList.take xs.length).drop (lo + m) := by rw [List.drop_take]
          rw [this, htake', bcells, bcells, List.map_drop]
        have lA : (bcells (xs.take lo)).length = lo := by rw [bcells_length, List.length_take]; omega
        rw [e1, List.take_append, List.take_append, lA, hm, List.take_of_length_le (l := bcells (xs.take lo)) (by rw [lA]; omega), List.take_of_length_le (l := bcells ys) (by rw [hm]; omega),
          show xs.length - lo - m = xs.length - (lo + m) from by omega, e2]
        simp [bcells]
      unfold Own
      rw [hl]
      refine ⟨by rw [bcells_length, hl]; omega, .inr ⟨g, cap, (splice cur.toList lo (bcells ys)).toArray, ?_, hg, hg'.out, by omega, hcap, ?_, ?_⟩⟩
      · rw [hlen]
      · rw [List.size_toArray, length_splice _ _ _ (by rw [hm, hcl]; omega), hcl]; omega
      · simpa using hT

end Go.Proofs.Ytoaahiclmodcgaa
