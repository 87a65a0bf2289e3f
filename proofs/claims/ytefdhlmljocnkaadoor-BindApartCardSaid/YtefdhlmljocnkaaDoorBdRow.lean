/- Rows of binds. Conditions: as each lemma states them. -/
import Derived.Test.YtefdhlmljocnkaaDoorBtM
import Derived.Test.YtefdhlmljocnkaaDoorRowL
namespace Go.Proofs.YtefdhlmljocnkaaDoor
open Go.RowKit
/-- Binds in cells. -/
def KB : Kin Bd := ⟨fun b => b.cells.toList, 23, by decide, fun _ => rfl, fun b u hu => (Array.all_eq_true_iff_forall_mem.1 b.one) u (by simpa using hu)⟩
theorem Tryd.infoBind : (Tryd.prog.info? 53).map (fun i => (i.zero, i.size, i.bytes)) = some (some (.agg #[.int .i64 0, .int .i64 0, .int .i64 0, .int .i64 0, .int .i64 0, .int .i64 0, .int .i64 0, .int .i64 0, .int .i64 0, .int .i64 0, .int .i64 0, .int .i64 0, .int .i64 0, .int .i64 0, .int .i64 0, .int .i64 0, .int .i64 0, .int .i64 0, .int .i64 0, .int .i64 0, .int .i64 0, .int .i64 0, .int .i64 0]), 23, 184) := by kernel_rfl
theorem Tryd.elemBinds : Tryd.prog.elem 37 = 53 := by kernel_rfl
theorem appBL {w : World} {ops : Array Oper} {rest : List Oper} {o : Oper} {a : Act} {Q : Exit → Act → World → Prop} (hgd : o.guard = none) (s x : Operand)
    (ho : o.op = .call { callee := .builtin .append, args := #[s, x], argTypes := #[37, 37] })
    (B : Nat) (v : Value) (ys : List Bd) (hs : a.eval s = v) (hown : KB.Own 53 w B v ys) (ao : Option Addr) (m c : Nat) (xs : List Bd) (hx : a.eval x = .slice ao m c) (hr : KB.See w ao m xs)
    (hmax : ys.length + m ≤ 1073741824) (hbase : B ≤ w.heap.size)
    (h : ∀ v' w', KB.Own 53 w' B v' (ys ++ xs) → w.grownBy w' v.ownBlock → Below B w w' → (v'.ownBlock = v.ownBlock ∨ v'.ownBlock = some w.heap.size) → wpList Tryd.prog ops Q rest (a.put o.dst v') w') : wpList Tryd.prog ops Q (o :: rest) a w :=
  appKL KB 37 53 _ 184 Tryd.underlying37 Tryd.infoBind rfl (by decide) hgd s x ho B v ys hs hown ao m c xs hx hr hmax hbase h
theorem Blk.binds1 {w : World} {g : Nat} {t : TypeId} {b : Bd} (h : Blk w g t b.cells) : KB.See w (some ⟨g, 0, none⟩) 1 [b] := Kin.See.blk h (by simp [Kin.cells, KB])
/-- A bind of a row, read whole. -/
theorem Kin.See.bind {w : World} {b off n : Nat} {xs : List Bd} (h : KB.See w (some ⟨b, off, none⟩) n xs) {i : Nat} {x : Bd} (hi : xs[i]? = some x) :
    (Instr.loadAt 53 (.pointer (some ⟨b, off + i * 23, none⟩))).run Tryd.prog w = .ok (.agg x.cells) w := by
  have hn : 0 < n := by
    have := (List.getElem?_eq_some_iff.1 hi).1
    rw [h.1] at this
    omega
  rcases h.2 with h0 | ⟨b', off', hb, hc⟩
  · omega
  · cases hb
    have := run_loadAt_mid (P := Tryd.prog) w b (off + i * 23) 53 x.cells.toList _ (fun j v hv => hc i x hi j v hv) Tryd.underlying53 rfl Tryd.sizeBd
    rw [Array.toArray_toList] at this
    exact this
/-- Entries that have come, of all. -/
structure Vis (l d : List Te) : Prop where
  sub : ∀ x ∈ d, x ∈ l
  nd : (d.map Te.sN).Nodup
theorem nodup_of_map {α β : Type} {f : α → β} {l : List α} (h : (l.map f).Nodup) : l.Nodup := by
  unfold List.Nodup at *
  rw [List.pairwise_map] at h
  exact h.imp fun hne he => hne (by rw [he])
theorem stamp_inj {l : List Te} (h : (l.map Te.sN).Nodup) {x y : Te} (hx : x ∈ l) (hy : y ∈ l) (he : x.sN = y.sN) : x = y := by
  obtain ⟨i, hi⟩ := List.mem_iff_getElem?.1 hx
  obtain ⟨j, hj⟩ := List.mem_iff_getElem?.1 hy
  have hij := (List.getElem?_inj (i := i) (j := j) (by simp only [List.length_map]; exact (List.getElem?_eq_some_iff.1 hi).1) h).1 (by rw [List.getElem?_map, List.getElem?_map, hi, hj]; simp [he])
  rw [← hij, hi] at hj
  exact Option.some.inj hj
theorem Vis.all {l d : List Te} (h : Vis l d) (hl : (l.map Te.sN).Nodup) (ha : ∀ x ∈ l, x.sN ∈ d.map Te.sN) : d.Perm l := by
  rw [List.perm_ext_iff_of_nodup (nodup_of_map h.nd) (nodup_of_map hl)]
  intro x
  refine ⟨h.sub x, fun hx => ?_⟩
  obtain ⟨y, hy, he⟩ := List.mem_map.1 (ha x hx)
  rw [← stamp_inj hl (h.sub y hy) hx he]
  exact hy
theorem Vis.add {l d : List Te} (h : Vis l d) {x : Te} (hx : x ∈ l) (hn : x.sN ∉ d.map Te.sN) : Vis l (d ++ [x]) := by
  refine ⟨fun y hy => ?_, ?_⟩
  · rcases List.mem_append.1 hy with hy | hy
    · exact h.sub y hy
    · simp at hy; subst hy; exact hx
  · rw [List.map_append, List.nodup_append]
    refine ⟨h.nd, by simp, fun a ha b hb => ?_⟩
    simp at hb
    subst hb
    exact fun he => hn (he ▸ ha)
theorem Vis.len {l d : List Te} (h : Vis l d) : d.length ≤ l.length := List.Nodup.length_le_of_subset (nodup_of_map h.nd) fun x hx => h.sub x hx
end Go.Proofs.YtefdhlmljocnkaaDoor
