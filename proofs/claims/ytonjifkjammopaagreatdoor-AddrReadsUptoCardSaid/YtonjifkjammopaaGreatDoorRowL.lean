/- Rows of values of any type, on: append with where the outcome lies, x[k:], x[:k]; addresses in rows. Conditions: as each lemma states them. -/
import Derived.Test.YtonjifkjammopaaGreatDoorRowI
import Derived.Test.YtonjifkjammopaaGreatDoorSix
import Derived.Maps.AppendAt
namespace Go.Proofs.YtonjifkjammopaaGreatDoor
open Go.RowKit
/-- append to what the call owns: at the operation, with where the outcome lies. -/
theorem wp_appKL {α : Type} (K : Kin α) (sl t : TypeId) (z : Value) (bz : Nat) (hU : Tryz.prog.underlying sl = some (.slice t)) (hI : (Tryz.prog.info? t).map (fun i => (i.zero, i.size, i.bytes)) = some (some z, K.sz, bz))
    (hz : z.cells.size = K.sz) (hby : bz ≤ 65536) {w : World} {o : Oper} {a : Act} {N : Act → World → Prop} {Q : Exit → Act → World → Prop} (s x : Operand)
    (ho : o.op = .call { callee := .builtin .append, args := #[s, x], argTypes := #[sl, sl] })
    (B : Nat) (v : Value) (ys : List α) (hs : a.eval s = v) (hown : K.Own t w B v ys) (ao : Option Addr) (m c : Nat) (xs : List α) (hx : a.eval x = .slice ao m c) (hr : K.See w ao m xs)
    (hmax : ys.length + m ≤ 1073741824) (hbase : B ≤ w.heap.size)
    (h : ∀ v' w', K.Own t w' B v' (ys ++ xs) → w.grownBy w' v.ownBlock → Below B w w' → (v'.ownBlock = v.ownBlock ∨ v'.ownBlock = some w.heap.size) → N (a.put o.dst v') w') : o.wp Tryz.prog a w N Q := by
  obtain ⟨i0, hi, hz0, hz1, hz2⟩ := info_parts hI
  have hl : (K.cells xs).length = m * K.sz := by rw [K.cells_length, hr.1]
  have hb : (ys.length + m) * bz ≤ 140737488355328 := Nat.le_trans (Nat.mul_le_mul hmax hby) (by decide)
  have at' : ∀ (ad : Addr) (news : List Value), a.eval x = .slice (some ad) m c → news.length = m * K.sz → (∀ j u, news[j]? = some u → w.cell? (ad.add j) = some u) → (∀ u ∈ news, u.oneCell' = true) → news = K.cells xs → o.wp Tryz.prog a w N Q := by
    intro ad news hx hnl hnews h1 hne
    obtain ⟨v', w', hr', h2, h3, _, h5⟩ := run_append_own_at (P := Tryz.prog) w B sl o.type t i0 z K.sz bz hU hi hz0 hz1 hz2 hz K.pos v _ (K.cells ys) hown ad m c news hnl hnews h1 (by unfold maxLen; omega) hb hbase
    unfold Oper.wp execOp
    simp only [ho, resolve, invoke, builtin, Sem.run_bind, Sem.run_pure, Result.andThen_ok, List.map_toArray, List.map_cons, List.map_nil, hs, hx, hr']
    refine h v' w' ?_ h3 ((Below.refl B w).grown h3 hbase fun k hk => (hown.lt k hk).1) h5
    unfold Kin.Own
    rw [List.length_append, hr.1, ← K.cells_append, ← hne]
    exact h2
  rcases hr.2 with h0 | ⟨b, off, rfl, hc⟩
  · subst h0
    obtain rfl : xs = [] := List.length_eq_zero_iff.1 hr.1
    cases ao with
    | none =>
      refine wp_append_own_none0 s x _ ho B _ i0 K.sz hU hi v _ (K.cells ys) c hs hown hx (h v w ?_ (World.grownBy.refl _ _) (Below.refl B w) (.inl rfl))
      simpa using hown
    | some ad => exact at' ad [] hx (by simp) (fun _ _ h => by simp at h) (fun _ h => by cases h) rfl
  · refine at' ⟨b, off, none⟩ (K.cells xs) hx hl ?_ (K.cells_one xs) rfl
    intro j u hj
    have hlt : j < m * K.sz := by have := (List.getElem?_eq_some_iff.1 hj).1; omega
    have hi6 : j / K.sz < xs.length := by rw [hr.1]; exact (Nat.div_lt_iff_lt_mul K.pos).2 hlt
    have hmod := Nat.mod_lt j K.pos
    have hdm : j / K.sz * K.sz + j % K.sz = j := by rw [Nat.mul_comm]; exact Nat.div_add_mod j K.sz
    have hat := K.cells_at xs (j / K.sz) (j % K.sz) _ (List.getElem?_eq_getElem hi6) hmod
    rw [hdm, hj] at hat
    have := hc (j / K.sz) _ (List.getElem?_eq_getElem hi6) (j % K.sz) u hat.symm
    rw [Addr.add_lit]
    rwa [Nat.add_assoc, hdm] at this
theorem appKL {α : Type} (K : Kin α) (sl t : TypeId) (z : Value) (bz : Nat) (hU : Tryz.prog.underlying sl = some (.slice t)) (hI : (Tryz.prog.info? t).map (fun i => (i.zero, i.size, i.bytes)) = some (some z, K.sz, bz))
    (hz : z.cells.size = K.sz) (hby : bz ≤ 65536) {w : World} {ops : Array Oper} {rest : List Oper} {o : Oper} {a : Act} {Q : Exit → Act → World → Prop} (hgd : o.guard = none) (s x : Operand)
    (ho : o.op = .call { callee := .builtin .append, args := #[s, x], argTypes := #[sl, sl] })
    (B : Nat) (v : Value) (ys : List α) (hs : a.eval s = v) (hown : K.Own t w B v ys) (ao : Option Addr) (m c : Nat) (xs : List α) (hx : a.eval x = .slice ao m c) (hr : K.See w ao m xs)
    (hmax : ys.length + m ≤ 1073741824) (hbase : B ≤ w.heap.size)
    (h : ∀ v' w', K.Own t w' B v' (ys ++ xs) → w.grownBy w' v.ownBlock → Below B w w' → (v'.ownBlock = v.ownBlock ∨ v'.ownBlock = some w.heap.size) → wpList Tryz.prog ops Q rest (a.put o.dst v') w') : wpList Tryz.prog ops Q (o :: rest) a w :=
  wpList_plain hgd fun _ hK => wp_appKL K sl t z bz hU hI hz hby s x ho B v ys hs hown ao m c xs hx hr hmax hbase fun v' w' h1 h2 h3 h4 => hK _ _ (h v' w' h1 h2 h3 h4)
/-- x[k:] of a row. -/
theorem tailK {α : Type} (K : Kin α) (sl t : TypeId) (hE : Tryz.prog.elem sl = t) (hU : Tryz.prog.underlying sl = some (.slice t)) (hS : ∀ w : World, (sizeOf t).run Tryz.prog w = .ok K.sz w) (a : Option Addr) (n c k : Nat) (i : Int) (hi : i = k) (hk : k ≤ n) (hnc : n ≤ c) :
    ∃ AA : Option Addr, (∀ (w : World) (xs : List α), K.See w a n xs → K.See w AA (n - k) (xs.drop k)) ∧
      ∀ W : World, (Instr.slice sl (.slice a n c) (some (.int .i64 i)) none none).run Tryz.prog W = .ok (.slice AA (n - k) (c - k)) W := by
  subst hi
  refine ⟨if c = k then a else a.map (·.add (k * K.sz)), fun w xs h => ?_, fun W => ?_⟩
  · by_cases hz : n - k = 0
    · exact ⟨by rw [List.length_drop, h.1], .inl hz⟩
    · rcases h.2 with h0 | ⟨b, off, rfl, _⟩
      · omega
      · rw [if_neg (by omega), Option.map_some, Addr.add_mid]
        exact h.drop k
  · rw [run_slice_l W sl a n c (by rw [hE]; exact hU) .i64 (k : Int) (by omega) (by omega), hE, hS]
    simp only [Result.andThen_ok, sliced, Int.toNat_natCast]
/-- x[:k] of a row. -/
theorem headK {α : Type} (K : Kin α) (sl t : TypeId) (hE : Tryz.prog.elem sl = t) (hU : Tryz.prog.underlying sl = some (.slice t)) (hS : ∀ w : World, (sizeOf t).run Tryz.prog w = .ok K.sz w) (b off n c k : Nat) (i : Int) (hi : i = k) (hk : k ≤ c) :
    ∀ W : World, (Instr.slice sl (.slice (some ⟨b, off, none⟩) n c) none (some (.int .i64 i)) none).run Tryz.prog W = .ok (.slice (some ⟨b, off, none⟩) k c) W := by
  subst hi
  intro W
  rw [run_slice_h W sl (some ⟨b, off, none⟩) n c (by rw [hE]; exact hU) .i64 (k : Int) (by omega) (by omega), hE, hS]
  simp only [Result.andThen_ok, sliced, Int.toNat_natCast, Nat.sub_zero, Nat.zero_mul, Option.map_some, Addr.add_mid, Nat.add_zero]
  by_cases hc : c = 0
  · rw [if_pos hc]
  · rw [if_neg hc]
/-- Addresses in cells. -/
def KS : Kin Six := ⟨fun s => s.cells.toList, 8, by decide, fun _ => rfl, fun s u hu => by
  have h : s.cells.all (·.oneCell') = true := by simp [Six.cells, Value.oneCell']
  exact (Array.all_eq_true_iff_forall_mem.1 h) u (by simpa using hu)⟩
theorem Tryz.elemInts : Tryz.prog.elem 56 = 3 := by kernel_rfl
theorem Tryz.sizeIntK : ∀ w : World, (sizeOf 3).run Tryz.prog w = .ok KI.sz w := fun w => by kernel_rfl
theorem Tryz.sizeSixK : ∀ w : World, (sizeOf 23).run Tryz.prog w = .ok KS.sz w := fun w => by kernel_rfl
theorem Tryz.infoSix : (Tryz.prog.info? 23).map (fun i => (i.zero, i.size, i.bytes)) = some (some (.agg #[.int .i64 0, .int .i64 0, .int .i64 0, .int .i64 0, .int .i64 0, .int .i64 0, .int .i64 0, .int .i64 0]), 8, 64) := by kernel_rfl
theorem appIL {w : World} {ops : Array Oper} {rest : List Oper} {o : Oper} {a : Act} {Q : Exit → Act → World → Prop} (hgd : o.guard = none) (s x : Operand)
    (ho : o.op = .call { callee := .builtin .append, args := #[s, x], argTypes := #[56, 56] })
    (B : Nat) (v : Value) (ys : List Int) (hs : a.eval s = v) (hown : KI.Own 3 w B v ys) (ao : Option Addr) (m c : Nat) (xs : List Int) (hx : a.eval x = .slice ao m c) (hr : KI.See w ao m xs)
    (hmax : ys.length + m ≤ 1073741824) (hbase : B ≤ w.heap.size)
    (h : ∀ v' w', KI.Own 3 w' B v' (ys ++ xs) → w.grownBy w' v.ownBlock → Below B w w' → (v'.ownBlock = v.ownBlock ∨ v'.ownBlock = some w.heap.size) → wpList Tryz.prog ops Q rest (a.put o.dst v') w') : wpList Tryz.prog ops Q (o :: rest) a w :=
  appKL KI 56 3 (.int .i64 0) 8 Tryz.underlying56 Tryz.infoInt rfl (by decide) hgd s x ho B v ys hs hown ao m c xs hx hr hmax hbase h
theorem Blk.sixes1 {w : World} {g : Nat} {t : TypeId} {s : Six} (h : Blk w g t s.cells) : KS.See w (some ⟨g, 0, none⟩) 1 [s] := Kin.See.blk h (by simp [Kin.cells, KS])
/-- An address of a row, read whole. -/
theorem Kin.See.six {w : World} {b off n : Nat} {xs : List Six} (h : KS.See w (some ⟨b, off, none⟩) n xs) {i : Nat} {s : Six} (hi : xs[i]? = some s) :
    (Instr.loadAt 23 (.pointer (some ⟨b, off + i * 8, none⟩))).run Tryz.prog w = .ok (.agg s.cells) w := by
  have hn : 0 < n := by
    have := (List.getElem?_eq_some_iff.1 hi).1
    rw [h.1] at this
    omega
  rcases h.2 with h0 | ⟨b', off', hb, hc⟩
  · omega
  · cases hb
    have := run_loadAt_mid (P := Tryz.prog) w b (off + i * 8) 23 s.cells.toList _ (fun j v hv => hc i s hi j v hv) Tryz.underlying23 rfl Tryz.size6
    rw [Array.toArray_toList] at this
    exact this
end Go.Proofs.YtonjifkjammopaaGreatDoor
